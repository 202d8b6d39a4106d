/- What the proof of DeflateRoundCard stands on (texts merged; names shortened by a program): part 6. -/
import Derived.Test.YtfgljddikcghhaaDoorQE
import Derived.Test.YtfgljddikcghhaaDoorQD
namespace Go.Proofs.YtfgljddikcghhaaDoor
open Go.RowKit
variable [AO]
set_option linter.unusedSectionVars false
set_option linter.unusedVariables false
set_option linter.unusedSimpArgs false

section
omit [AO]
def Oj (T : List (Int × Int)) (a : Nat) (b : Bool) : Int := match T[a]? with
 | some p => if b then p.2 else p.1
 | none => 0
def Ajv (T : List (Int × Int)) (a : Nat) (b : Bool) (v : Int) : List (Int × Int) := match T[a]? with
 | some p => T.set a (if b then (p.1, v) else (v, p.2))
 | none => T
/-- One symbol more: n bits above the last one are ApD to be gone. -/
def AhQ : Nat → List (Int × Int) → Nat → Nat → Nat → List (Int × Int)
 | 0, T, a, code, s => Ajv T a (code % 2 == 1) (-1 - (s : Int))
 | n + 1, T, a, code, s =>
  if Oj T a (code / 2 ^ (n + 1) % 2 == 1) = 0 then AhQ n (Ajv (T ++ [(0, 0)]) a (code / 2 ^ (n + 1) % 2 == 1) (T.length : Int)) T.length code s
  else AhQ n T (Oj T a (code / 2 ^ (n + 1) % 2 == 1)).toNat code s
/-- No symbol stands in the way. -/
def AlT : Nat → List (Int × Int) → Nat → Nat → Prop
 | 0, T, a, _ => a < T.length
 | n + 1, T, a, code => a < T.length ∧ (if Oj T a (code / 2 ^ (n + 1) % 2 == 1) = 0 then AlT n (Ajv (T ++ [(0, 0)]) a (code / 2 ^ (n + 1) % 2 == 1) (T.length : Int)) T.length code
  else 0 < Oj T a (code / 2 ^ (n + 1) % 2 == 1) ∧ AlT n T (Oj T a (code / 2 ^ (n + 1) % 2 == 1)).toNat code)
theorem AbS (T : List (Int × Int)) (a : Nat) (b : Bool) (v : Int) : (Ajv T a b v).length = T.length := by
 unfold Ajv; split <;> simp
end
theorem AFf {it j v n code s : Nat} {T : List (Int × Int)} {H : List Ob} (hit : H[it]? = some (.obj 0 (.os 2 j v [] 0 T.length T.length))) (hj : H[j]? = some (.obj v (.arr T.length 2 (T.map plc)))) (hne : it ≠ j) (hn : n + 1 ≤ 15) (hc : code ≤ 1000000000) (hs : s ≤ 100000) (hT : T.length ≤ 100000) (hok : AlT n T 0 code) :
  Ap Tryd.prog 49 [.op it 0 [], i64 (code : Int), i64 ((n + 1 : Nat) : Int), i64 (s : Int)] H
  (fun x H' => ∃ v', H'[it]? = some (.obj 0 (.os 2 j v' [] 0 (AhQ n T 0 code s).length (AhQ n T 0 code s).length)) ∧ H'[j]? = some (.obj v' (.arr (AhQ n T 0 code s).length 2 ((AhQ n T 0 code s).map plc))) ∧ (∀ i, i < H.length → i ≠ it → i ≠ j → H'[i]? = H[i]?) ∧ H.length ≤ H'.length ∧ (AhQ n T 0 code s).length ≤ T.length + n) := by
 have hit_l := (List.getElem?_eq_some_iff.1 hit).1
 have hj_l := (List.getElem?_eq_some_iff.1 hj).1
 refine Ad3 (by simp) ?_
 simp -dsimp (disch := first | assumption | omega | (simp only [Ae]; done) | (simp only [Ae]; omega)) only [↓Ag, Ac, Ah, Ai, eq_self, Nat.reduceEqDiff, ↓reduceIte, Nat.reduceAdd, reduceCtorEq, ↓BJ]
 rw [hit]
 refine ⟨rfl, ?_⟩
 show vwp Tryd.prog (.loop [0, 1, 2, 3, 8] EY) _ _ H
 refine Bi (fun q e H' => ∃ (T1 : List (Int × Int)) (a v1 : Nat), q ≤ n ∧ e = [(0, .op it 0 []), (1, i64 (code : Int)), (2, i64 (q : Int)), (3, i64 (s : Int)), (8, i64 (a : Int))] ∧ AhQ n T 0 code s = AhQ q T1 a code s ∧ AlT q T1 a code ∧ T1.length + q ≤ T.length + n ∧
  H'[it]? = some (.obj 0 (.os 2 j v1 [] 0 T1.length T1.length)) ∧ H'[j]? = some (.obj v1 (.arr T1.length 2 (T1.map plc))) ∧ (∀ i, i < H.length → i ≠ it → i ≠ j → H'[i]? = H[i]?) ∧ H.length ≤ H'.length) n ?_ ?_
 ·exact ⟨T, 0, v, Nat.le_refl _, rfl, rfl, hok, Nat.le_refl _, hit, hj, fun _ _ _ _ => rfl, Nat.le_refl _⟩
 ·rintro q e H' ⟨T1, a, v1, hq, rfl, hadd, hok1, hlen, h1, h2, h3, h4⟩
  cases q with
  | zero =>
   have ha : a < T1.length := hok1
   obtain ⟨p, hp, hpe⟩ : ∃ p, T1[a]? = some p ∧ T1[a] = p := ⟨_, List.getElem?_eq_getElem ha, rfl⟩
   rw [AhQ] at hadd
   have hsub : (-1 : Int) - (s : Int) = -1 - (s : Int) := rfl
   have hand : code &&& 1 = code % 2 := Nat.and_one_is_mod code
   rcases Nat.mod_two_eq_zero_or_one code with hb | hb
   ·rw [hb] at hadd hand
    have hset : Ajv T1 a ((0 : Nat) == 1) (-1 - (s : Int)) = T1.set a (-1 - (s : Int), p.2) := by unfold Ajv; rw [hp]; rfl
    rw [hset] at hadd
    simp -dsimp (disch := first | assumption | omega | (simp only [Ae]; done) | (simp only [Ae]; omega)) only [↓Ag, Ac, Ah, Ai, eq_self, Nat.reduceLT, Nat.reduceEqDiff, ↓reduceIte, reduceCtorEq, ↓BJ, h1, h2, hp, hand]
    rw [hadd]
    exact ⟨v1, by simp, by simp [List.map_set], fun i hi h5 h6 => by rw [List.getElem?_set_ne (Ne.symm h6)]; exact h3 i hi h5 h6, h4, by simp; omega⟩
   ·rw [hb] at hadd hand
    have hset : Ajv T1 a ((1 : Nat) == 1) (-1 - (s : Int)) = T1.set a (p.1, -1 - (s : Int)) := by unfold Ajv; rw [hp]; rfl
    rw [hset] at hadd
    simp -dsimp (disch := first | assumption | omega | (simp only [Ae]; done) | (simp only [Ae]; omega)) only [↓Ag, Ac, Ah, Ai, eq_self, Nat.reduceLT, Nat.reduceEqDiff, ↓reduceIte, reduceCtorEq, ↓BJ, h1, h2, hp, hand]
    rw [hadd]
    exact ⟨v1, by simp, by simp [List.map_set], fun i hi h5 h6 => by rw [List.getElem?_set_ne (Ne.symm h6)]; exact h3 i hi h5 h6, h4, by simp; omega⟩
  | succ q =>
   rw [AhQ] at hadd
   rw [AlT] at hok1
   obtain ⟨ha, hok1⟩ := hok1
   obtain ⟨p, hp, hpe⟩ : ∃ p, T1[a]? = some p ∧ T1[a] = p := ⟨_, List.getElem?_eq_getElem ha, rfl⟩
   have hcle : code / 2 ^ (q + 1) ≤ 1000000000 := Nat.le_trans (Nat.div_le_self _ _) hc
   generalize hcq : code / 2 ^ (q + 1) = cq at *
   have hand : cq &&& 1 = cq % 2 := Nat.and_one_is_mod cq
   rcases Nat.mod_two_eq_zero_or_one cq with hb | hb
   ·rw [hb] at hadd hok1 hand
    have hsl : Oj T1 a ((0 : Nat) == 1) = p.1 := by unfold Oj; rw [hp]; rfl
    rw [hsl] at hadd hok1
    by_cases hp0 : p.1 = 0
    ·rw [if_pos hp0] at hadd hok1
     have hpA : (T1.map plc ++ [TV.arr 2 1 [i64 ((0 : Nat) : Int), i64 ((0 : Nat) : Int)]])[a]? = some (plc p) := by rw [List.getElem?_append_left (by simpa using ha), List.getElem?_map, hp]; rfl
     have hgs : ∀ X : TV, ((T1.map plc ++ [TV.arr 2 1 [i64 ((0 : Nat) : Int), i64 ((0 : Nat) : Int)]]).set a X)[a]? = some X := fun X => by rw [List.getElem?_set_self (by simp; omega)]
     have hlA : (T1.map plc ++ [TV.arr 2 1 [i64 ((0 : Nat) : Int), i64 ((0 : Nat) : Int)]]).length = T1.length + 1 := by simp
     simp -dsimp (disch := first | assumption | omega | (simp only [Ae]; done) | (simp only [Ae]; omega)) only [↓Ag, Ac, Ah, Ai, eq_self, Nat.reduceLT, Nat.reduceEqDiff, ↓reduceIte, reduceCtorEq, Nat.reduceLeDiff, ↓BJ, h1, h2, hp, hcq, hand, hp0, DJ, hpA, hgs]
     have hset : Ajv (T1 ++ [(0, 0)]) a ((0 : Nat) == 1) (T1.length : Int) = (T1 ++ [(0, 0)]).set a ((T1.length : Int), p.2) := by
      unfold Ajv; rw [List.getElem?_append_left ha, hp]; rfl
     rw [hset] at hadd hok1
     have hmap : (T1.map plc ++ [TV.arr 2 1 [i64 ((0 : Nat) : Int), i64 ((0 : Nat) : Int)]]).set a (TV.arr 2 1 [i64 (T1.length : Int), i64 p.2]) = ((T1 ++ [(0, 0)]).set a ((T1.length : Int), p.2)).map plc := by
      rw [List.map_set, List.map_append]; rfl
     rw [hmap]
     have hjl : j < H'.length := (List.getElem?_eq_some_iff.1 h2).1
     have hil : it < H'.length := (List.getElem?_eq_some_iff.1 h1).1
     refine Am q (by omega) (by simp; omega) ⟨(T1 ++ [(0, 0)]).set a ((T1.length : Int), p.2), T1.length, v1 + 1, by omega, rfl, hadd, hok1, by simp; omega, ?_, ?_, fun i hi h5 h6 => ?_, by simp; omega⟩
     ·simp [List.getElem?_append, hil, Ne.symm hne]
     ·simp [List.getElem?_append, hjl]
     ·have : i < H'.length := by omega
      simp [List.getElem?_append, this, Ne.symm h5, Ne.symm h6]
      rw [← List.getElem?_eq_getElem this]
      exact h3 i hi h5 h6
    ·rw [if_neg hp0] at hadd hok1
     obtain ⟨hpos, hok2⟩ := hok1
     obtain ⟨m, hm⟩ : ∃ m : Nat, p.1 = (m : Int) := ⟨p.1.toNat, by omega⟩
     rw [hm, Int.toNat_natCast] at hadd hok2
     have hm0 : ¬ (m = 0) := by omega
     simp -dsimp (disch := first | assumption | omega | (simp only [Ae]; done) | (simp only [Ae]; omega)) only [↓Ag, Ac, Ah, Ai, eq_self, Nat.reduceLT, Nat.reduceEqDiff, ↓reduceIte, reduceCtorEq, ↓BJ, h1, h2, hp, hcq, hand, hm]
     exact Am q (by omega) h4 ⟨T1, m, v1, by omega, rfl, hadd, hok2, by omega, h1, h2, h3, h4⟩
   ·rw [hb] at hadd hok1 hand
    have hsl : Oj T1 a ((1 : Nat) == 1) = p.2 := by unfold Oj; rw [hp]; rfl
    rw [hsl] at hadd hok1
    by_cases hp0 : p.2 = 0
    ·rw [if_pos hp0] at hadd hok1
     have hpA : (T1.map plc ++ [TV.arr 2 1 [i64 ((0 : Nat) : Int), i64 ((0 : Nat) : Int)]])[a]? = some (plc p) := by rw [List.getElem?_append_left (by simpa using ha), List.getElem?_map, hp]; rfl
     have hgs : ∀ X : TV, ((T1.map plc ++ [TV.arr 2 1 [i64 ((0 : Nat) : Int), i64 ((0 : Nat) : Int)]]).set a X)[a]? = some X := fun X => by rw [List.getElem?_set_self (by simp; omega)]
     have hlA : (T1.map plc ++ [TV.arr 2 1 [i64 ((0 : Nat) : Int), i64 ((0 : Nat) : Int)]]).length = T1.length + 1 := by simp
     simp -dsimp (disch := first | assumption | omega | (simp only [Ae]; done) | (simp only [Ae]; omega)) only [↓Ag, Ac, Ah, Ai, eq_self, Nat.reduceLT, Nat.reduceEqDiff, ↓reduceIte, reduceCtorEq, Nat.reduceLeDiff, ↓BJ, h1, h2, hp, hcq, hand, hp0, DJ, hpA, hgs]
     have hset : Ajv (T1 ++ [(0, 0)]) a ((1 : Nat) == 1) (T1.length : Int) = (T1 ++ [(0, 0)]).set a (p.1, (T1.length : Int)) := by
      unfold Ajv; rw [List.getElem?_append_left ha, hp]; rfl
     rw [hset] at hadd hok1
     have hmap : (T1.map plc ++ [TV.arr 2 1 [i64 ((0 : Nat) : Int), i64 ((0 : Nat) : Int)]]).set a (TV.arr 2 1 [i64 p.1, i64 (T1.length : Int)]) = ((T1 ++ [(0, 0)]).set a (p.1, (T1.length : Int))).map plc := by
      rw [List.map_set, List.map_append]; rfl
     rw [hmap]
     have hjl : j < H'.length := (List.getElem?_eq_some_iff.1 h2).1
     have hil : it < H'.length := (List.getElem?_eq_some_iff.1 h1).1
     refine Am q (by omega) (by simp; omega) ⟨(T1 ++ [(0, 0)]).set a (p.1, (T1.length : Int)), T1.length, v1 + 1, by omega, rfl, hadd, hok1, by simp; omega, ?_, ?_, fun i hi h5 h6 => ?_, by simp; omega⟩
     ·simp [List.getElem?_append, hil, Ne.symm hne]
     ·simp [List.getElem?_append, hjl]
     ·have : i < H'.length := by omega
      simp [List.getElem?_append, this, Ne.symm h5, Ne.symm h6]
      rw [← List.getElem?_eq_getElem this]
      exact h3 i hi h5 h6
    ·rw [if_neg hp0] at hadd hok1
     obtain ⟨hpos, hok2⟩ := hok1
     obtain ⟨m, hm⟩ : ∃ m : Nat, p.2 = (m : Int) := ⟨p.2.toNat, by omega⟩
     rw [hm, Int.toNat_natCast] at hadd hok2
     have hm0 : ¬ (m = 0) := by omega
     simp -dsimp (disch := first | assumption | omega | (simp only [Ae]; done) | (simp only [Ae]; omega)) only [↓Ag, Ac, Ah, Ai, eq_self, Nat.reduceLT, Nat.reduceEqDiff, ↓reduceIte, reduceCtorEq, ↓BJ, h1, h2, hp, hcq, hand, hm]
     exact Am q (by omega) h4 ⟨T1, m, v1, by omega, rfl, hadd, hok2, by omega, h1, h2, h3, h4⟩
end Go.Proofs.YtfgljddikcghhaaDoor


namespace Go.Proofs.YtfgljddikcghhaaDoor
open Go.RowKit
variable [AO]
set_option linter.unusedSectionVars false
set_option linter.unusedVariables false

section
omit [AO]
/-- Where the codes of n bits begin. -/
def stN (ls : List Nat) : Nat → Nat
 | 0 => 0
 | 1 => 0
 | n + 2 => (stN ls (n + 1) + ls.count (n + 1)) * 2
/-- How many codes of n bits are left. -/
def Jf (ls : List Nat) : Nat → Int
 | 0 => 1
 | n + 1 => Jf ls n * 2 - (ls.count (n + 1) : Int)
def WY (ls : List Nat) : Nat → Nat
 | 0 => 0
 | n + 1 => WY ls n + ls.count (n + 1)
def Mc (ls : List Nat) (n : Nat) : Prop := ∀ k, k ≤ n → 0 ≤ Jf ls k
def okP (ls : List Nat) (few non : Bool) : Prop := Mc ls 15 ∧ (Jf ls 15 ≤ 0 ∨ (few = true ∧ WY ls 15 = 1 ∧ ls.count 1 = 1) ∨ (non = true ∧ WY ls 15 = 0))
/-- The bits of the symbol i. -/
def Ej (ls : List Nat) (n i : Nat) : Nat := stN ls n + (ls.take i).count n
def DU (ls : List Nat) : Nat → List (Int × Int)
 | 0 => [(0, 0)]
 | i + 1 => match ls[i]? with
  | some (n + 1) => AhQ n (DU ls i) 0 (Ej ls (n + 1) i) i
  | _ => DU ls i
def ArM (ls : List Nat) : Prop := ∀ i n, ls[i]? = some (n + 1) → AlT n (DU ls i) 0 (Ej ls (n + 1) i)
theorem AhP (ls : List Nat) : ∀ n, Jf ls (n + 1) = (2 : Int) ^ (n + 1) - ((stN ls (n + 1) + ls.count (n + 1) : Nat) : Int)
 | 0 => by simp [Jf, stN]
 | n + 1 => by
  rw [Jf, AhP ls n, stN, Int.pow_succ _ (n + 1)]
  push_cast
  omega
theorem AkV : ∀ (n : Nat) (T : List (Int × Int)) (a code s : Nat), (AhQ n T a code s).length ≤ T.length + n
 | 0, T, a, code, s => by rw [AhQ, AbS]; omega
 | n + 1, T, a, code, s => by
  rw [AhQ]
  split
  ·have := AkV n (Ajv (T ++ [(0, 0)]) a (code / 2 ^ (n + 1) % 2 == 1) (T.length : Int)) T.length code s
   rw [AbS, List.length_append] at this
   simp at this; omega
  ·have := AkV n T (Oj T a (code / 2 ^ (n + 1) % 2 == 1)).toNat code s
   omega
theorem Al1 (ls : List Nat) (h : ∀ n ∈ ls, n ≤ 15) : ∀ i, (DU ls i).length ≤ 1 + 15 * i
 | 0 => by simp [DU]
 | i + 1 => by
  have ih := Al1 ls h i
  rw [DU]
  split
  ·rename_i n hn
   have := AkV n (DU ls i) 0 (Ej ls (n + 1) i) i
   have := h _ (List.mem_of_getElem? hn)
   omega
  ·omega
theorem Aox (ls : List Nat) {m : Nat} (h : Mc ls m) : ∀ n, n ≤ m + 1 → stN ls n ≤ 2 ^ n ∧ (1 ≤ n → n ≤ m → stN ls n + ls.count n ≤ 2 ^ n)
 | 0, _ => ⟨by simp [stN], fun h => by omega⟩
 | 1, hn => ⟨by simp [stN], fun _ h1 => by
  have h2 := h 1 h1
  have h3 : Jf ls 1 = 2 - ((stN ls 1 + ls.count 1 : Nat) : Int) := AhP ls 0
  rw [h3] at h2
  have : (2 : Nat) ^ 1 = 2 := rfl
  omega⟩
 | n + 2, hn => by
  have h1 := (Aox ls h (n + 1) (by omega)).2 (by omega) (by omega)
  refine ⟨by rw [stN, Nat.pow_succ]; omega, fun _ h2 => ?_⟩
  have h4 := h (n + 2) h2
  have h3 : Jf ls (n + 2) = ((2 ^ (n + 2) : Nat) : Int) - ((stN ls (n + 2) + ls.count (n + 2) : Nat) : Int) := by rw [AhP ls (n + 1)]; push_cast; rfl
  rw [h3] at h4
  omega
end
end Go.Proofs.YtfgljddikcghhaaDoor


namespace Go.Proofs.YtfgljddikcghhaaDoor
open Go.RowKit
variable [AO]
set_option linter.unusedSectionVars false
set_option linter.unusedVariables false

section
omit [AO]
/-- A reader takes something. -/
def Aud (r : Rd) : Prop := ∀ B y B1, r B = some (y, B1) → B1.length < B.length
theorem Atp {sd : Rd} (hd : Aud sd) {y : Nat} {B B2 : List Bool} {n far : Nat} (h : Ay3 sd y B = some (n, far, B2)) : B2.length ≤ B.length := by
 unfold Ay3 at h
 split at h
 ·cases h
 ·split at h
  ·cases h
  ·rename_i d B3 hs
   split at h
   ·cases h
   ·split at h
    ·cases h
    ·cases h
     have := hd _ _ _ hs
     rw [List.length_drop] at this ⊢
     omega
theorem AhX {sl sd : Rd} (hl : Aud sl) (hd : Aud sd) {most win : Int} : ∀ {f : Nat} {B : List Bool} {l : List UInt8} {B' : List Bool} {l' : List UInt8}, AgV sl sd most win f B l = .ok (B', l') → B'.length ≤ B.length
 | 0, B, l, B', l', h => by simp [AgV] at h
 | f + 1, B, l, B', l', h => by
  rw [AgV] at h
  split at h
  ·cases h
  ·rename_i y B1 hs
   have h1 := hl _ _ _ hs
   split at h
   ·split at h
    ·cases h
    ·have := AhX hl hd h; omega
   ·split at h
    ·cases h; omega
    ·split at h
     ·cases h
     ·split at h
      ·cases h
      ·rename_i n far B2 hr
       have h2 := Atp hd hr
       split at h
       ·cases h
       ·split at h
        ·cases h
        ·have := AhX hl hd h; omega
theorem Amr {sc : Rd} (hc : Aud sc) {tot : Nat} : ∀ {f : Nat} {B : List Bool} {row row' : List Nat} {B' : List Bool}, Q9 sc tot f B row = some (row', B') → B'.length ≤ B.length
 | 0, B, row, row', B', h => by simp [Q9] at h
 | f + 1, B, row, row', B', h => by
  rw [Q9] at h
  split at h
  ·cases h; omega
  ·split at h
   ·cases h
   ·rename_i y B1 hs
    have h1 := hc _ _ _ hs
    split at h
    ·cases h
    ·split at h
     ·cases h
     ·split at h
      ·cases h
      ·have := Amr hc h
       rw [List.length_drop] at this
       omega
theorem Aiy {okc : List Nat → Bool → Bool → Bool} {rd : List Nat → Rd} (hr : ∀ ls, Aud (rd ls)) {B : List Bool} {a b : List Nat} {B' : List Bool} (h : Aee okc rd B = some (a, b, B')) : B'.length ≤ B.length := by
 unfold Aee at h
 split at h
 ·cases h
 ·split at h
  ·cases h
  ·split at h
   ·cases h
   ·split at h
    ·cases h
    ·split at h
     ·cases h
     ·rename_i row B2 hs
      have := Amr (hr _) hs
      rw [List.length_drop] at this
      split at h
      ·cases h
      ·cases h; omega
theorem AmV {most : Int} {B : List Bool} {l : List UInt8} {B' : List Bool} {l' : List UInt8} (h : Yg most B l = .ok (B', l')) : B'.length ≤ B.length := by
 unfold Yg at h
 simp only at h
 split at h
 ·cases h
 ·split at h
  ·cases h
  ·cases h
   simp only [List.length_drop]
   omega
theorem AjK {okc : List Nat → Bool → Bool → Bool} {rd : List Nat → Rd} (hr : ∀ ls, Aud (rd ls)) {most win : Int} {B : List Bool} {l : List UInt8} {b : Bool} {B' : List Bool} {l' : List UInt8} (h : P8 okc rd most win B l = (b, .ok (B', l'))) : B'.length < B.length := by
 unfold P8 at h
 split at h
 ·cases h
 ·have h3 : (B.drop 3).length < B.length := by rw [List.length_drop]; omega
  simp only [Prod.mk.injEq] at h
  obtain ⟨_, h⟩ := h
  unfold Ahn at h
  split at h
  ·have := AmV h; omega
  ·have := AhX (hr _) (hr _) h; omega
  ·split at h
   ·cases h
   ·rename_i a b B2 ht
    have h1 := Aiy hr ht
    split at h
    ·have := AhX (hr _) (hr _) h; omega
    ·cases h
  ·cases h
end
end Go.Proofs.YtfgljddikcghhaaDoor


namespace Go.Proofs.YtfgljddikcghhaaDoor
open Go.RowKit
variable [AO]
set_option linter.unusedSectionVars false
set_option linter.unusedVariables false
set_option linter.unusedSimpArgs false

abbrev Amy (e : Nat) : Value := .iface 28 (.int .i64 (e : Int))
/-- The reader, bits B left. -/
structure CX (H : List Ob) (id : Nat) (B : List Bool) (o : TV) (l : List UInt8) (most win : Int) (J : Option Nat) : Prop where
 ob : ∃ inn held count, B = HY inn held count ∧ inn.length ≤ 1000000 ∧ count ≤ 7 ∧ held < 2 ^ count ∧ H[id]? = some (rdr inn held count o (i64 most) (i64 win))
 row : AkX H o l J
 ne : J ≠ some id
 len : l.length ≤ 1000000
theorem CX.lt {H : List Ob} {id : Nat} {B : List Bool} {o : TV} {l : List UInt8} {most win : Int} {J : Option Nat} (h : CX H id B o l most win J) : id < H.length := by
 obtain ⟨_, _, _, _, _, _, _, h⟩ := h.ob
 exact (List.getElem?_eq_some_iff.1 h).1
theorem CX.jlt {H : List Ob} {id : Nat} {B : List Bool} {o : TV} {l : List UInt8} {most win : Int} {J : Option Nat} (h : CX H id B o l most win J) {j : Nat} (hj : J = some j) : j < H.length := by
 have := h.row; subst hj
 obtain ⟨v, _, h2⟩ := this
 exact (List.getElem?_eq_some_iff.1 h2).1
theorem CX.keep {H H' : List Ob} {id : Nat} {B : List Bool} {o : TV} {l : List UInt8} {most win : Int} {J : Option Nat} (h : CX H id B o l most win J) (hk : ∀ i, i = id ∨ J = some i → H'[i]? = H[i]?) : CX H' id B o l most win J := by
 refine ⟨by rw [hk id (.inl rfl)]; exact h.ob, ?_, h.ne, h.len⟩
 have hr := h.row
 cases J with
 | none => exact hr
 | some j =>
  obtain ⟨v, h1, h2⟩ := hr
  exact ⟨v, h1, by rw [hk j (.inr rfl)]; exact h2⟩
theorem CX.app {H : List Ob} {id : Nat} {B : List Bool} {o : TV} {l : List UInt8} {most win : Int} {J : Option Nat} (h : CX H id B o l most win J) {G : List Ob} : CX (H ++ G) id B o l most win J := h.keep fun i hi => by
 rcases hi with rfl | hi
 ·exact List.getElem?_append_left h.lt
 ·exact List.getElem?_append_left (h.jlt hi)
theorem CX.set {H : List Ob} {id : Nat} {B : List Bool} {o : TV} {l : List UInt8} {most win : Int} {J : Option Nat} (h : CX H id B o l most win J) {k : Nat} {x : Ob} (h1 : k ≠ id) (h2 : J ≠ some k) : CX (H.set k x) id B o l most win J := h.keep fun i hi => by
 rcases hi with rfl | hi
 ·exact List.getElem?_set_ne h1
 ·exact List.getElem?_set_ne (fun e => h2 (by rw [e]; exact hi))
theorem AiQ {id n : Nat} {B : List Bool} {o : TV} {l : List UInt8} {most win : Int} {J : Option Nat} {H : List Ob} (h : CX H id B o l most win J) (hn : n ≤ 16) : BR Tryd.prog 24 [.op id 0 [], i64 (n : Int)] H
  (fun x H' => Frm id none H H' ∧ H'.length = H.length ∧ n ≤ B.length ∧ x = i64 ((C9 (B.take n) : Nat) : Int) ∧ CX H' id (B.drop n) o l most win J)
  (fun u H' => B.length < n ∧ u = Amy 10 ∧ Frm id none H H') := by
 have hlt := h.lt
 obtain ⟨inn, held, count, rfl, h1, h2, h3, h4⟩ := h.ob
 refine (AzQ h4 hn h1 h2 h3).mono ?_ ?_
 ·rintro x H' ⟨inn', held', count', k1, k2, rfl, k4, k5, k6, k7⟩
  exact ⟨Frm.set, by simp, k1, k2, ⟨inn', held', count', k7.symm, by omega, k5, k6, by simp [hlt]⟩, h.row.set h.ne, h.ne, h.len⟩
 ·rintro u H' ⟨k1, k2, y, rfl⟩
  exact ⟨k1, k2, Frm.set⟩
theorem Anp {id : Nat} {B : List Bool} {o : TV} {l : List UInt8} {most win : Int} {J : Option Nat} {T : List (Int × Int)} {H : List Ob} (h : CX H id B o l most win J) (hT : LG T) (hT0 : 0 < T.length) :
  BR Tryd.prog 48 [.op id 0 [], Ael T] H
  (fun y H' => Frm id none H H' ∧ H'.length = H.length ∧ ∃ s B', Zx T 0 B = some (s, B') ∧ y = i64 (s : Int) ∧ CX H' id B' o l most win J)
  (fun u H' => Zx T 0 B = none ∧ u = Amy 10 ∧ Frm id none H H') := by
 have hlt := h.lt
 obtain ⟨inn, held, count, rfl, h1, h2, h3, h4⟩ := h.ob
 refine (Axu h4 hT hT0 h1 h2 h3).mono ?_ ?_
 ·rintro x H' ⟨s, inn', held', count', k1, k2, rfl, k4, k5, k6⟩
  exact ⟨Frm.set, by simp, s, _, k1, k2, ⟨inn', held', count', rfl, by omega, k5, k6, by simp [hlt]⟩, h.row.set h.ne, h.ne, h.len⟩
 ·rintro u H' ⟨k1, k2, y, rfl⟩
  exact ⟨k1, k2, Frm.set⟩
theorem AD2 {id : Nat} {B : List Bool} {o : TV} {l : List UInt8} {most win : Int} {b : UInt8} {J : Option Nat} {H : List Ob} (h : CX H id B o l most win J) (hm : -9223372036854775808 ≤ most ∧ most ≤ 1000000) :
  BR Tryd.prog 25 [.op id 0 [], by8 b] H
  (fun x H' => (l.length : Int) < most ∧ Frm id J H H' ∧ ∃ o' j, Jn J (some j) H ∧ CX H' id B o' (l ++ [b]) most win (some j))
  (fun u H' => most ≤ (l.length : Int) ∧ u = Amy 11 ∧ H' = H) := by
 have hlt := h.lt
 have hlen := h.len
 obtain ⟨inn, held, count, rfl, h1, h2, h3, h4⟩ := h.ob
 refine (AET h4 h.row h.ne h.len (by omega)).mono ?_ ?_
 ·rintro x H' ⟨k1, o', j, k2, k3, k4, k5, k6, k7⟩
  refine ⟨k1, ⟨k7, k6⟩, o', j, ?_, ⟨inn, held, count, rfl, h1, h2, h3, k2⟩, k3, by simpa using k4, by simp; omega⟩
  rcases k5 with e | e
  ·exact .inl e.symm
  ·exact .inr fun j2 h2 => by cases h2; exact e
 ·rintro u H' ⟨k1, k2, k3⟩
  exact ⟨k1, k2, k3⟩
theorem AnS (n : Nat) (B : List Bool) : C9 (B.take n) < 2 ^ n := by
 have h1 := Agm (B.take n)
 have h2 : (B.take n).length ≤ n := by rw [List.length_take]; omega
 have h3 : 2 ^ (B.take n).length ≤ 2 ^ n := Nat.pow_le_pow_right (by omega) h2
 omega
/-- The same bytes again. -/
theorem ADO {id n far : Nat} {t1 t2 : TV} {B : List Bool} {l : List UInt8} {o : TV} {most win : Int} {J : Option Nat} {H : List Ob} {Q : VEx → Env → List Ob → Prop} (hst : CX H id B o l most win J) (hm : -9223372036854775808 ≤ most ∧ most ≤ 1000000) (hn : n ≤ 3000) (hf0 : 1 ≤ far) (hf : far ≤ l.length)
  (hok : ∀ l' J' o' H' y, Om most far n l = some l' → CX H' id B o' l' most win J' → Jn J J' H → Frm id J H H' → Q .nor [(0, .op id 0 []), (1, t1), (2, t2), (9, i64 (far : Int)), (67, i64 (n : Int)), (68, i64 (n : Int)), (69, y)] H')
  (herr : ∀ H', Om most far n l = none → Frm id J H H' → ∀ e, Q (.pan (Amy 11)) e H') :
  vwp Tryd.prog (.loop [0, 1, 2, 9, 67, 68] CV) (Blk 3 Q) [(0, .op id 0 []), (1, t1), (2, t2), (9, i64 (far : Int)), (67, i64 (n : Int)), (68, i64 ((0 : Nat) : Int))] H := by
 refine Bi (fun q e H' => ∃ k : Nat, q = n - k ∧ k ≤ n ∧ e = [(0, .op id 0 []), (1, t1), (2, t2), (9, i64 (far : Int)), (67, i64 (n : Int)), (68, i64 (k : Int))] ∧ Frm id J H H' ∧
  ∃ l' J' o', Om most far n l = Om most far (n - k) l' ∧ far ≤ l'.length ∧ CX H' id B o' l' most win J' ∧ Jn J J' H) n ?_ ?_
 ·exact ⟨0, rfl, by omega, rfl, Frm.refl, l, J, o, rfl, hf, hst, Jn.refl⟩
 ·rintro q e H' ⟨k, rfl, hk, rfl, hfr, l', J', o', c1, c2, hs, hj⟩
  by_cases hlt : k < n
  ·obtain ⟨inn, held, count, _, _, _, _, ho⟩ := hs.ob
   have hlen := hs.len
   obtain ⟨b, hb⟩ : ∃ b, l'[l'.length - far]? = some b := ⟨_, List.getElem?_eq_getElem (by omega)⟩
   have hstep : Om most far (n - k) l' = if most ≤ (l'.length : Int) then none else Om most far (n - (k + 1)) (l' ++ [b]) := by
    rw [show n - k = (n - (k + 1)) + 1 by omega, Om, hb]; rfl
   have hrow := hs.row
   cases J' with
   | none =>
    obtain ⟨rfl, rfl⟩ := hrow
    simp at c2; omega
   | some j =>
    obtain ⟨v, rfl, hjo⟩ := hrow
    simp -dsimp (disch := first | assumption | omega | (simp only [Ae]; done) | (simp only [Ae]; omega)) only [↓Ag, Ac, Ah, Ai, eq_self, Nat.reduceEqDiff, ↓reduceIte, Nat.reduceAdd, reduceCtorEq, ↓Aw, ho, hjo, hb]
    refine (AD2 hs hm).callsP ?_ ?_
    ·rintro x H2 ⟨k1, k2, o2, j2, k3, k4⟩
     rw [if_neg (by omega)] at hstep
     simp -dsimp (disch := first | assumption | omega | (simp only [Ae]; done) | (simp only [Ae]; omega)) only [↓Ag, Ac, Ah, Ai, eq_self, Nat.reduceEqDiff, ↓reduceIte, reduceCtorEq]
     exact Am (n - (k + 1)) (by omega) (by have := hfr.1; have := k2.1; omega) ⟨k + 1, rfl, by omega, rfl, hfr.trans hj k2, l' ++ [b], some j2, o2, by rw [c1, hstep], by simp; omega, k4, Jn.trans hfr hj k3⟩
    ·rintro u H2 ⟨k1, rfl, rfl⟩
     rw [if_pos k1] at hstep
     exact herr _ (by rw [c1, hstep]) hfr _
  ·have hkn : k = n := by omega
   subst hkn
   rw [Nat.sub_self, Om] at c1
   simp -dsimp (disch := first | assumption | omega | (simp only [Ae]; done) | (simp only [Ae]; omega)) only [↓Ag, Ac, Ah, Ai, eq_self, Nat.reduceEqDiff, ↓reduceIte, reduceCtorEq, ↓Aw]
   exact hok l' J' o' H' _ c1 hs hj hfr
set_option maxHeartbeats 1000000 in
theorem Azv {id : Nat} {B : List Bool} {o : TV} {l : List UInt8} {most win : Int} {J : Option Nat} {T T2 : List (Int × Int)} {H : List Ob} (fuel : Nat) (hst : CX H id B o l most win J) (hfu : B.length < fuel) (hT : LG T) (hT0 : 0 < T.length) (hT2 : LG T2) (hT20 : 0 < T2.length) (hr : Aud (Zx T 0)) (hsym : ∀ B y B1, Zx T 0 B = some (y, B1) → y ≤ 100000) (hsym2 : ∀ B y B1, Zx T2 0 B = some (y, B1) → y ≤ 100000) (hr2 : Aud (Zx T2 0)) (hm : -9223372036854775808 ≤ most ∧ most ≤ 1000000) (hw : -9223372036854775808 ≤ win ∧ win ≤ 9223372036854775807) :
  BR Tryd.prog 27 [.op id 0 [], Ael T, Ael T2] H
  (fun x H' => Frm id J H H' ∧ ∃ B' l' o' J', AgV (Zx T 0) (Zx T2 0) most win fuel B l = .ok (B', l') ∧ CX H' id B' o' l' most win J' ∧ Jn J J' H)
  (fun u H' => Frm id J H H' ∧ ∃ e, AgV (Zx T 0) (Zx T2 0) most win fuel B l = .error e ∧ u = Amy e) := by
 obtain ⟨R, hR⟩ : ∃ R, R = AgV (Zx T 0) (Zx T2 0) most win fuel B l := ⟨_, rfl⟩
 rw [← hR]
 refine Vk (by simp) ?_
 simp -dsimp (disch := first | assumption | omega | (simp only [Ae]; done) | (simp only [Ae]; omega)) only [↓Ag, Ah, Ai, Nat.reduceAdd, ↓Aw]
 refine Bi (fun q e H' => ∃ B1 o1 l1 J1, e = [(0, .op id 0 []), (1, Ael T), (2, Ael T2)] ∧ Frm id J H H' ∧ B1.length < q ∧ R = AgV (Zx T 0) (Zx T2 0) most win q B1 l1 ∧ CX H' id B1 o1 l1 most win J1 ∧ Jn J J1 H) fuel ?_ ?_
 ·exact ⟨B, o, l, J, rfl, Frm.refl, hfu, hR, hst, Jn.refl⟩
 ·rintro q e H' ⟨B1, o1, l1, J1, rfl, hfr, hq, hR1, hs, hj⟩
  obtain ⟨f, rfl⟩ : ∃ f', q = f' + 1 := ⟨q - 1, by omega⟩
  rw [AgV] at hR1
  have hl0 := hfr.1
  simp -dsimp (disch := first | assumption | omega | (simp only [Ae]; done) | (simp only [Ae]; omega)) only [↓Ag, Ac, Ah, Ai, eq_self, Nat.reduceEqDiff, ↓reduceIte, reduceCtorEq, ↓Aw]
  refine (Anp hs hT hT0).callsP ?_ ?_
  case refine_2 =>
   rintro u H2 ⟨k1, rfl, k3⟩
   rw [k1] at hR1
   exact ⟨hfr.trans hj k3.weak, 10, hR1, rfl⟩
  rintro x H2 ⟨f2, l2, y, B2, k1, rfl, s2⟩
  have hyl := hsym _ _ _ k1
  have hB2 := hr _ _ _ k1
  rw [k1] at hR1
  simp only at hR1
  have hfr2 : Frm id J H H2 := hfr.trans hj f2.weak
  have hl2 := hfr2.1
  by_cases hy : y < 256
  ·rw [if_pos hy] at hR1
   simp -dsimp (disch := first | assumption | omega | (simp only [Ae]; done) | (simp only [Ae]; omega)) only [↓Ag, Ac, Ah, Ai, eq_self, Nat.reduceEqDiff, ↓reduceIte, reduceCtorEq, ↓Aw]
   refine (AD2 (b := UInt8.ofNat y) s2 hm).callsP ?_ ?_
   ·rintro x H3 ⟨k1, k2, o3, j3, k3, k4⟩
    rw [if_neg (by omega)] at hR1
    have := k2.1
    simp -dsimp (disch := first | assumption | omega | (simp only [Ae]; done) | (simp only [Ae]; omega)) only [↓Ag, Ac, Ah, Ai, eq_self, Nat.reduceEqDiff, ↓reduceIte, reduceCtorEq]
    exact Am f (by omega) (by omega) ⟨B2, o3, _, some j3, rfl, hfr2.trans hj k2, by omega, hR1, k4, Jn.trans hfr2 hj k3⟩
   ·rintro u H3 ⟨k1, rfl, rfl⟩
    rw [if_pos k1] at hR1
    exact ⟨hfr2, 11, hR1, rfl⟩
  rw [if_neg hy] at hR1
  by_cases hy2 : y = 256
  ·subst hy2
   rw [if_pos rfl] at hR1
   simp -dsimp (disch := first | assumption | omega | (simp only [Ae]; done) | (simp only [Ae]; omega)) only [↓Ag, Ac, Ah, Ai, eq_self, Nat.reduceLT, Nat.reduceEqDiff, ↓reduceIte, reduceCtorEq, ↓Aw]
   exact ⟨hfr2, B2, l1, o1, J1, hR1, s2, hj⟩
  rw [if_neg hy2] at hR1
  by_cases hy3 : 285 < y
  ·rw [if_pos hy3] at hR1
   simp -dsimp (disch := first | assumption | omega | (simp only [Ae]; done) | (simp only [Ae]; omega)) only [↓Ag, Ac, Ah, Ai, eq_self, Nat.reduceEqDiff, ↓reduceIte, reduceCtorEq, ↓Aw]
   exact ⟨hfr2, 10, hR1, rfl⟩
  rw [if_neg hy3] at hR1
  have hy4 : 257 ≤ y ∧ y ≤ 285 := by omega
  simp -dsimp (disch := first | assumption | omega | (simp only [Ae]; done) | (simp only [Ae]; omega)) only [↓Ag, Ac, Ah, Ai, eq_self, Nat.reduceEqDiff, ↓reduceIte, reduceCtorEq, ↓Aw]
  refine (Ah7 y hy4).calls rfl ?_
  rintro _ rfl
  have hlp : (if y = 285 then (258, 0) else Bl 3 4 (y - 257)) = Ed y := rfl
  rw [hlp]
  have hlb : (Ed y).1 ≤ 1000 ∧ (Ed y).2 ≤ 10 ∧ 1 ≤ (Ed y).1 := by
   unfold Ed
   split
   ·simp
   ·have := Aew (y - 257) (by omega)
    rw [AkE (y - 257) (by omega)] at this
    refine ⟨this.1, this.2, ?_⟩
    unfold Bl; split <;> simp only <;> omega
  obtain ⟨hlb1, hlb2, hlb3⟩ := hlb
  rw [Ay3] at hR1
  simp -dsimp (disch := first | assumption | omega | (simp only [Ae]; done) | (simp only [Ae]; omega)) only [↓Ag, Ac, Ah, Ai, eq_self, Nat.reduceEqDiff, ↓reduceIte, Nat.reduceAdd, reduceCtorEq, ↓Aw]
  have hid2 := s2.lt
  have hJ2 : ∀ j, J1 = some j → j < H2.length := fun j hj => s2.jlt hj
  obtain ⟨X, hX⟩ : ∃ X, X = H2.length := ⟨_, rfl⟩
  have hXl : (H2 ++ [Ob.obj 0 (spn (Ed y))])[X]? = some (Ob.obj 0 (spn (Ed y))) := by rw [hX, List.getElem?_append_right (Nat.le_refl _)]; simp
  have hfr2' : Frm id J H (H2 ++ [Ob.obj 0 (spn (Ed y))]) := hfr2.trans (J' := J1) hj ⟨by simp, fun i hi _ _ => List.getElem?_append_left hi⟩
  refine (AiQ (s2.app (G := [Ob.obj 0 (spn (Ed y))])) (n := (Ed y).2) (by omega)).callsP ?_ ?_
  case refine_2 =>
   rintro u H3 ⟨k1, rfl, k3⟩
   rw [if_pos k1] at hR1
   exact ⟨hfr2'.trans hj k3.weak, 10, hR1, rfl⟩
  rintro x H3 ⟨f3, l3, k1, rfl, s3⟩
  rw [if_neg (by omega)] at hR1
  have hl3 : H3.length = H2.length + 1 := by rw [l3]; simp
  have hX3 : H3[X]? = some (Ob.obj 0 (spn (Ed y))) := by rw [f3.2 X (by simp; omega) (by omega) (by simp)]; exact hXl
  have hfr3 : Frm id J H H3 := hfr2'.trans hj f3.weak
  refine ⟨?_, ?_⟩
  case refine_2 =>
   change Abx [29, 32] _ _ _
   intro s hs j ver p hg
   simp only [List.mem_cons, List.not_mem_nil, or_false] at hs
   rcases hs with rfl | rfl <;>
   ·simp [get] at hg
    obtain ⟨rfl, _⟩ := hg
    rw [← hX, hX3, hXl]
  obtain ⟨n2, hn2⟩ : ∃ n2, n2 = C9 (B2.take (Ed y).2) := ⟨_, rfl⟩
  rw [← hn2]
  have hn2l : n2 ≤ 1024 := by
   have h1 := AnS (Ed y).2 B2
   rw [← hn2] at h1
   have h3 : 2 ^ (Ed y).2 ≤ 2 ^ 10 := Nat.pow_le_pow_right (by omega) hlb2
   omega
  simp -dsimp (disch := first | assumption | omega | (simp only [Ae]; done) | (simp only [Ae]; omega)) only [↓Ag, Ac, Ah, Ai, eq_self, Nat.reduceEqDiff, ↓reduceIte, reduceCtorEq]
  refine (Anp s3 hT2 hT20).callsP ?_ ?_
  case refine_2 =>
   rintro u H4 ⟨k1, rfl, k3⟩
   rw [k1] at hR1
   exact ⟨hfr3.trans hj k3.weak, 10, hR1, rfl⟩
  rintro x H4 ⟨f4, l4, d, B3, k2, rfl, s4⟩
  have hdl := hsym2 _ _ _ k2
  have hB3 := hr2 _ _ _ k2
  rw [k2] at hR1
  simp only at hR1
  have hfr4 : Frm id J H H4 := hfr3.trans hj f4.weak
  by_cases hd29 : 29 < d
  ·rw [if_pos hd29] at hR1
   simp -dsimp (disch := first | assumption | omega | (simp only [Ae]; done) | (simp only [Ae]; omega)) only [↓Ag, Ac, Ah, Ai, eq_self, Nat.reduceEqDiff, ↓reduceIte, reduceCtorEq, ↓Aw]
   exact ⟨hfr4, 10, hR1, rfl⟩
  rw [if_neg hd29] at hR1
  have hd4 : d ≤ 29 := by omega
  have hX4 : H4[X]? = some (Ob.obj 0 (spn (Ed y))) := by rw [f4.2 X (by omega) (by omega) (by simp)]; exact hX3
  simp -dsimp (disch := first | assumption | omega | (simp only [Ae]; done) | (simp only [Ae]; omega)) only [↓Ag, Ac, Ah, Ai, eq_self, Nat.reduceEqDiff, ↓reduceIte, reduceCtorEq, ↓Aw]
  refine (Ae9 d hd4).calls rfl ?_
  rintro _ rfl
  obtain ⟨hpb1, hpb2⟩ := Afv d (by omega)
  rw [Ah3 d (by omega)] at hpb1 hpb2
  have hpb3 : 1 ≤ (Bl 1 2 d).1 := by unfold Bl; split <;> simp only <;> omega
  rw [← hX]
  simp -dsimp (disch := first | assumption | omega | (simp only [Ae]; done) | (simp only [Ae]; omega)) only [↓Ag, Ac, Ah, Ai, eq_self, Nat.reduceEqDiff, ↓reduceIte, Nat.reduceAdd, reduceCtorEq, ↓Aw, hX4]
  have hXl4 : X < H4.length := (List.getElem?_eq_some_iff.1 hX4).1
  have s4' : CX (H4.set X (Ob.obj 0 (spn (Bl 1 2 d)))) id B3 o1 l1 most win J1 := s4.set (by omega) (fun e => by have := hJ2 _ e; omega)
  have hXs : (H4.set X (Ob.obj 0 (spn (Bl 1 2 d))))[X]? = some (Ob.obj 0 (spn (Bl 1 2 d))) := by simp [hXl4]
  have hfr4' : Frm id J H (H4.set X (Ob.obj 0 (spn (Bl 1 2 d)))) := ⟨by have := hfr4.1; simp; omega, fun i hi h1 h2 => by rw [List.getElem?_set_ne (by omega)]; exact hfr4.2 i hi h1 h2⟩
  refine (AiQ s4' (n := (Bl 1 2 d).2) (by omega)).callsP ?_ ?_
  case refine_2 =>
   rintro u H5 ⟨k3, rfl, k4⟩
   rw [if_pos k3] at hR1
   exact ⟨hfr4'.trans hj k4.weak, 10, hR1, rfl⟩
  rintro x H5 ⟨f5, l5, k3, rfl, s5⟩
  rw [if_neg (by omega)] at hR1
  have hfr5 : Frm id J H H5 := hfr4'.trans hj f5.weak
  refine ⟨?_, ?_⟩
  case refine_2 =>
   change Abx [44, 47] _ _ _
   intro s hs j ver p hg
   simp only [List.mem_cons, List.not_mem_nil, or_false] at hs
   rcases hs with rfl | rfl <;>
   ·simp [get] at hg
    obtain ⟨rfl, _⟩ := hg
    exact f5.2 X (by simpa using hXl4) (by omega) (by simp)
  obtain ⟨n4, hn4⟩ : ∃ n4, n4 = C9 (B3.take (Bl 1 2 d).2) := ⟨_, rfl⟩
  rw [← hn4]
  rw [← hn4, ← hn2] at hR1
  simp only at hR1
  have hn4l : n4 ≤ 65536 := by
   have h1 := AnS (Bl 1 2 d).2 B3
   rw [← hn4] at h1
   have h3 : 2 ^ (Bl 1 2 d).2 ≤ 2 ^ 15 := Nat.pow_le_pow_right (by omega) hpb2
   omega
  obtain ⟨far, hfar⟩ : ∃ far, far = (Bl 1 2 d).1 + n4 := ⟨_, rfl⟩
  rw [← hfar] at hR1
  have hE : (((Bl 1 2 d).1 : Int) + (n4 : Int)) = (far : Int) := by omega
  have hlen5 := s5.len
  have hB5 : (B3.drop (Bl 1 2 d).2).length < f := by
   rw [List.length_drop]
   have := hB3
   rw [List.length_drop] at this
   omega
  obtain ⟨inn, held, count, _, _, _, _, ho5⟩ := s5.ob
  have hrow5 := s5.row
  cases J1 with
  | none =>
   obtain ⟨rfl, rfl⟩ := hrow5
   rw [if_pos (.inl (by simp; omega))] at hR1
   simp -dsimp (disch := first | assumption | omega | (simp only [Ae]; done) | (simp only [Ae]; omega)) only [↓Ag, Ac, Ah, Ai, eq_self, Nat.reduceEqDiff, ↓reduceIte, Nat.reduceAdd, reduceCtorEq, ho5, hE]
   exact ⟨hfr5, 10, hR1, rfl⟩
  | some j1 =>
   obtain ⟨v1, rfl, hjo⟩ := hrow5
   by_cases hfa : l1.length < far
   ·rw [if_pos (.inl hfa)] at hR1
    simp -dsimp (disch := first | assumption | omega | (simp only [Ae]; done) | (simp only [Ae]; omega)) only [↓Ag, Ac, Ah, Ai, eq_self, Nat.reduceEqDiff, ↓reduceIte, Nat.reduceAdd, reduceCtorEq, ho5, hE]
    exact ⟨hfr5, 10, hR1, rfl⟩
   by_cases hfw : win < (far : Int)
   ·rw [if_pos (.inr hfw)] at hR1
    simp -dsimp (disch := first | assumption | omega | (simp only [Ae]; done) | (simp only [Ae]; omega)) only [↓Ag, Ac, Ah, Ai, eq_self, Nat.reduceEqDiff, ↓reduceIte, Nat.reduceAdd, reduceCtorEq, ho5, hE]
    exact ⟨hfr5, 10, hR1, rfl⟩
   rw [if_neg (by omega)] at hR1
   have hl5 : H.length ≤ H5.length := hfr5.1
   simp -dsimp (disch := first | assumption | omega | (simp only [Ae]; done) | (simp only [Ae]; omega)) only [↓Ag, Ac, Ah, Ai, eq_self, Nat.reduceEqDiff, ↓reduceIte, Nat.reduceAdd, reduceCtorEq, ↓Aw, ho5, hE]
   refine ADO (n := (Ed y).1 + n2) (far := far) s5 hm (by omega) (by omega) (by omega) ?_ ?_
   ·intro l' J' o' H6 yy c1 c2 c3 c4
    rw [c1] at hR1
    have hl6 := c4.1
    simp -dsimp (disch := first | assumption | omega | (simp only [Ae]; done) | (simp only [Ae]; omega)) only [↓Ag]
    exact Am f (by omega) (by omega) ⟨_, o', l', J', rfl, hfr5.trans hj c4, hB5, hR1, c2, Jn.trans hfr5 hj c3⟩
   ·intro H6 c1 c4 _
    rw [c1] at hR1
    exact ⟨hfr5.trans hj c4, 11, hR1, rfl⟩
end Go.Proofs.YtfgljddikcghhaaDoor


namespace Go.Proofs.YtfgljddikcghhaaDoor
open Go.RowKit
variable [AO]
set_option linter.unusedSectionVars false
set_option linter.unusedVariables false

variable {P : Program}
/-- A CALL THAT LEAVES NOTHING BEHIND, AND YIELDS NEW MEMORY ALONE, or ends in a panic. -/
def X9 (P : Program) (f : FuncId) (args : List TV) (R : TV → Prop) (RP : Value → Prop) : Prop :=
 ∀ (β : Nat → Nat → Option (Nat × Nat)) (F : Nat → Prop) (w : World) (vs : List Value), ((∀ b, F b → b < w.heap.size) ∧ TD F w) → BH ⟨β, [], F⟩ w args vs →
  Calls P f vs.toArray w fun e w' => ∃ F', Zr F w F' w' ∧ ((∃ v x, e = .returned v ∧ R x ∧ Rep ⟨β, [], fun b => F' b ∧ w.heap.size ≤ b⟩ w' x v) ∨ ∃ u, e = .panicked [{ v := u, recovered := false }] ∧ RP u)
theorem X9.mono {f : FuncId} {args : List TV} {R R' : TV → Prop} {RP RP' : Value → Prop} (h : X9 P f args R RP) (hr : ∀ x, R x → R' x) (hp : ∀ u, RP u → RP' u) : X9 P f args R' RP' :=
 fun β F w vs hF hv => (h β F w vs hF hv).mono fun _ _ ⟨F', h1, h2⟩ => ⟨F', h1, h2.imp (fun ⟨v, x, k1, k2, k3⟩ => ⟨v, x, k1, hr _ k2, k3⟩) fun ⟨u, k1, k2⟩ => ⟨u, k1, hp _ k2⟩⟩
theorem BR.toFreshP {f : FuncId} {args : List TV} {R : TV → Prop} {RP : Value → Prop} (h : BR P f args [] (fun x H' => match frs H' x with | some y => R y | none => False) fun u _ => RP u) : X9 P f args R RP := by
 intro β F w vs hF hv
 have hs : Sim ⟨β, [], F⟩ w := ⟨fun id o ho => by simp at ho, fun i j x y b o o' hx => by simp at hx, fun b hb => by obtain ⟨i, o, off, h1, _⟩ := hb; simp at h1, hF.1, hF.2⟩
 have hno : ∀ b, ¬ Ctx.own ⟨β, [], F⟩ b := fun b hb => by obtain ⟨i, o, off, h1, _⟩ := hb; simp at h1
 refine (h β F w vs hs hv).mono ?_
 rintro _ w' ⟨β', H', F', hs', hl, hc⟩
 have hnew : ∀ b, Ctx.own ⟨β', H', F'⟩ b → w.heap.size ≤ b := fun b hb => by
  rcases Nat.lt_or_ge b w.heap.size with h1 | h1
  ·exact absurd (hl.oldOwn b h1 hb) (hno b)
  ·exact h1
 refine ⟨fun b => F b ∨ Ctx.own ⟨β', H', F'⟩ b, ⟨hl.os, hl.tape, hl.output, hl.size, fun b hb => hl.same b hb (hno b), fun b hb => .inl hb, fun b hb hF' => hF'.elim id fun h => ?_, fun b hF' => hF'.elim (fun h => Nat.lt_of_lt_of_le (hF.1 b h) hl.size) hs'.own_lt⟩, ?_⟩
 ·have := hnew b h; omega
 ·rcases hc with ⟨v, x, rfl, hR, hx⟩ | ⟨u, rfl, hR⟩
  ·split at hR
   ·rename_i y hy
    have hr := Aom hs' hy hx
    exact .inl ⟨v, y, rfl, hR, Rep.mono (Ny.ofF (F := Ctx.own ⟨β', H', F'⟩) (F' := fun b => (F b ∨ Ctx.own ⟨β', H', F'⟩ b) ∧ w.heap.size ≤ b) fun b hb => ⟨.inr hb, hnew b hb⟩) hr⟩
   ·exact hR.elim
  ·exact .inr ⟨u, rfl, hR⟩
theorem BR.toFreshPV {f : FuncId} {args : List TV} {R : TV → Prop} {RP : Value → Prop} (h : BR P f args [] (fun x H' => BV (frs H' x) R) fun u _ => RP u) : X9 P f args R RP :=
 BR.toFreshP (h.mono (fun x H' hx => by
  cases hf : frs H' x with
  | none => rw [hf] at hx; exact hx
  | some y => rw [hf] at hx; exact hx) fun _ _ h => h)
theorem X9.lendsP {f : FuncId} {args args' : List TV} {R : TV → Prop} {RP : Value → Prop} {H : List Ob} {K : TV → List Ob → Prop} {KP : Value → List Ob → Prop} (h : X9 P f args' R RP) (hp : Azs H args = some args') (hk : ∀ x, R x → K x H) (hkp : ∀ u, RP u → KP u H) : VCP P f args H K KP := by
 intro β F w vs hs hv
 refine (h β (fun b => F b ∨ Ctx.own ⟨β, H, F⟩ b) w vs ⟨fun b hb => hb.elim (hs.lt b) hs.own_lt, hs.glob.keep fun b hb => ⟨.inl hb, rfl⟩⟩ (Akb hs hp hv)).mono ?_
 rintro _ w' ⟨F', hst, hc⟩
 have hst' : Zr F w (fun b => F b ∨ (F' b ∧ w.heap.size ≤ b)) w' := ⟨hst.os, hst.tape, hst.output, hst.size, hst.same, fun _ h => .inl h, fun b hb h => h.elim id fun h => by omega, fun b hb => hb.elim (fun h => Nat.lt_of_lt_of_le (hs.lt b h) hst.size) fun h => hst.ltF b h.1⟩
 refine ⟨β, H, _, hst'.sim hs, hst'.later, ?_⟩
 rcases hc with ⟨v, x, rfl, hR, hx⟩ | ⟨u, rfl, hR⟩
 ·exact .inl ⟨v, x, rfl, hk x hR, Rep.mono (Ny.ofF (F := fun b => F' b ∧ w.heap.size ≤ b) (F' := fun b => F b ∨ (F' b ∧ w.heap.size ≤ b)) fun b hb => .inr hb) hx⟩
 ·exact .inr ⟨u, rfl, hkp u hR⟩

def AoA (x x' : TV) : Prop := ∀ (c : Ctx) (w : World) (v : Value), AsH c w x v → AsH c w x' v
inductive AdQ : List TV → List TV → Prop
 | nil : AdQ [] []
 | cons {x x' : TV} {xs xs' : List TV} : AoA x x' → AdQ xs xs' → AdQ (x :: xs) (x' :: xs')
theorem AoA.refl {x : TV} : AoA x x := fun _ _ _ h => h
theorem AdQ.refl : ∀ {xs : List TV}, AdQ xs xs
 | [] => .nil
 | _ :: _ => .cons AoA.refl AdQ.refl
theorem AdQ.rep {c : Ctx} {w : World} {xs xs' : List TV} (h : AdQ xs xs') : ∀ {vs : List Value}, BH c w xs vs → BH c w xs' vs := by
 induction h with
 | nil => exact fun h => h
 | cons h1 h2 ih =>
  intro vs hv
  rw [BH.cons] at hv ⊢
  obtain ⟨u, us, rfl, k1, k2⟩ := hv
  exact ⟨u, us, rfl, h1 _ _ _ k1, ih k2⟩
/-- No slice is an empty one. -/
theorem AeL {k : Nat} : AoA (.val (.slice none 0 0)) (.sl k []) := fun c w v h => by
 have hv : v = .slice none 0 0 := by
  have h' : Rep c w (.val (.slice none 0 0)) v := .inl h
  rw [Rep.val] at h'; exact h'
 subst hv
 refine .inr (.inr ⟨[.slice none 0 0], ?_, rfl⟩)
 rw [Aq]
 exact ⟨by simp, .inl ⟨rfl, none, 0, rfl, by omega⟩⟩
theorem D5.argL {f : FuncId} {args args' : List TV} {R : TV → Prop} (h : D5 P f args' R) (hc : AdQ args args') : D5 P f args R :=
 fun β F w vs hF hv => h β F w vs hF (hc.rep hv)
/-- A result may be read in another way. -/
theorem D5.conv {f : FuncId} {args : List TV} {R R' : TV → Prop} (h : D5 P f args R) (hc : ∀ x, R x → ∃ x', R' x' ∧ ∀ c w v, Rep c w x v → Rep c w x' v) : D5 P f args R' :=
 fun β F w vs hF hv => (h β F w vs hF hv).mono fun _ _ ⟨v, x, F', h1, h2, h3, h4⟩ => by
  obtain ⟨x', k1, k2⟩ := hc x h2
  exact ⟨v, x', F', h1, k1, k2 _ _ _ h3, h4⟩
theorem AdQ.tup {xs xs' : List TV} (h : AdQ xs xs') : ∀ (c : Ctx) (w : World) (v : Value), Rep c w (.tup xs) v → Rep c w (.tup xs') v := by
 rintro c w v ((h1 | h1 | ⟨us, h1, _⟩) | ⟨ys, vs, h1, h2, h3⟩)
 ·cases h1
 ·cases h1
 ·rw [Aq] at h1; exact h1.elim
 ·cases h1
  exact .inr ⟨xs', vs, rfl, h2, h.rep h3⟩
end Go.Proofs.YtfgljddikcghhaaDoor


namespace Go.Proofs.YtfgljddikcghhaaDoor
open Go.RowKit
variable [AO]
set_option linter.unusedSectionVars false
set_option linter.unusedVariables false
set_option linter.unusedSimpArgs false

abbrev AjZ (l : List Nat) (n : Nat) : Ob := .obj 0 (.arr n 1 (l.map fun (n : Nat) => i64 (n : Int)))
/-- The counts. -/
def Avx (ls : List Nat) (L : List Nat) : Prop := L.length = 16 ∧ ∀ n, n < 16 → L[n]? = some (ls.count n)
theorem AAp {ls : List Nat} {few non : TV} (hl : ls.length ≤ 1000) (h15 : ∀ n ∈ ls, n ≤ 15) {Q : VEx → Env → List Ob → Prop}
  (hq : ∀ L y, Avx ls L → Q .nor [(0, Cc ls), (1, few), (2, non), (7, .op 0 0 []), (18, Cc ls), (19, i64 (ls.length : Int)), (20, i64 (ls.length : Int)), (21, y)] [AjZ L 16]) :
  vwp Tryd.prog (.loop [0, 1, 2, 7, 18, 19, 20] LQ) (Blk 0 Q) [(0, Cc ls), (1, few), (2, non), (7, .op 0 0 []), (18, Cc ls), (19, i64 (ls.length : Int)), (20, i64 ((0 : Nat) : Int))] [AjZ (List.replicate 16 0) 16] := by
 refine Bi (fun q e H => ∃ (i : Nat) (L : List Nat), q = ls.length - i ∧ i ≤ ls.length ∧ e = [(0, Cc ls), (1, few), (2, non), (7, .op 0 0 []), (18, Cc ls), (19, i64 (ls.length : Int)), (20, i64 (i : Int))] ∧ Avx (ls.take i) L ∧ H = [AjZ L 16]) ls.length ?_ ?_
 ·refine ⟨0, List.replicate 16 0, rfl, by omega, rfl, ⟨rfl, fun n hn => ?_⟩, rfl⟩
  rw [List.getElem?_replicate, if_pos hn]; simp
 ·rintro q e H ⟨i, L, rfl, hi, rfl, ⟨hL1, hL2⟩, rfl⟩
  by_cases hlt : i < ls.length
  ·obtain ⟨n, hn⟩ : ∃ n, ls[i]? = some n := ⟨_, List.getElem?_eq_getElem hlt⟩
   have hn15 := h15 n (List.mem_of_getElem? hn)
   have hLn := hL2 n (by omega)
   have hcl : (ls.take i).count n ≤ 1000 := Nat.le_trans List.count_le_length (by rw [List.length_take]; omega)
   have htk : ls.take (i + 1) = ls.take i ++ [n] := by rw [List.take_add_one, hn]; rfl
   simp -dsimp (disch := first | assumption | omega | (simp only [Ae]; done) | (simp only [Ae]; omega)) only [↓Ag, Ac, Ah, Ai, eq_self, Nat.reduceEqDiff, ↓reduceIte, reduceCtorEq, ↓Bg, hn, hLn]
   refine Am (ls.length - (i + 1)) (by omega) (by simp) ⟨i + 1, L.set n ((ls.take i).count n + 1), rfl, by omega, rfl, ⟨by simp [hL1], fun k hk => ?_⟩, by simp only [AjZ, List.map_set]⟩
   rw [htk, List.count_append]
   by_cases hkn : k = n
   ·subst hkn
    rw [List.getElem?_set_self (by omega)]; simp
   ·rw [List.getElem?_set_ne (Ne.symm hkn), hL2 k hk]
    have : List.count k [n] = 0 := by rw [List.count_eq_zero]; simpa using hkn
    rw [this]; rfl
  ·have hil : i = ls.length := by omega
   subst hil
   rw [List.take_length] at hL2
   simp -dsimp (disch := first | assumption | omega | (simp only [Ae]; done) | (simp only [Ae]; omega)) only [↓Ag, Ac, Ah, Ai, eq_self, Nat.reduceEqDiff, ↓reduceIte, reduceCtorEq, ↓Bg]
   exact hq L _ ⟨hL1, hL2⟩
section
omit [AO]
theorem count_le (ls : List Nat) (n : Nat) : ls.count n ≤ ls.length := List.count_le_length
theorem Akp (ls : List Nat) : ∀ n, Mc ls n → Jf ls n ≤ ((2 ^ n : Nat) : Int)
 | 0, _ => by simp [Jf]
 | n + 1, h => by
  have := Akp ls n fun k hk => h k (by omega)
  rw [Jf, Nat.pow_succ]
  push_cast at this ⊢
  omega
theorem AkD (ls : List Nat) (hl : ls.length ≤ 1000) : ∀ n, WY ls n ≤ 1000 * n
 | 0 => by simp [WY]
 | n + 1 => by
  have := AkD ls hl n
  have := count_le ls (n + 1)
  rw [WY]; omega
end
theorem ACD {ls L : List Nat} {few non : TV} (hl : ls.length ≤ 1000) (hL : Avx ls L) {Q : VEx → Env → List Ob → Prop}
  (hq : ∀ y, Mc ls 15 → Q .nor [(0, Cc ls), (1, few), (2, non), (7, .op 0 0 []), (10, i64 (Jf ls 15)), (11, i64 (WY ls 15 : Int)), (12, i64 ((16 : Nat) : Int)), (31, y)] [AjZ L 16])
  (hp : ¬ Mc ls 15 → ∀ e H, Q (.pan (Amy 10)) e H) :
  vwp Tryd.prog (.loop [0, 1, 2, 7, 10, 11, 12] Lu) (Blk 2 Q) [(0, Cc ls), (1, few), (2, non), (7, .op 0 0 []), (10, i64 ((1 : Nat) : Int)), (11, i64 ((0 : Nat) : Int)), (12, i64 ((1 : Nat) : Int))] [AjZ L 16] := by
 refine Bi (fun q e H => ∃ n : Nat, q = 15 - n ∧ n ≤ 15 ∧ Mc ls n ∧ e = [(0, Cc ls), (1, few), (2, non), (7, .op 0 0 []), (10, i64 (Jf ls n)), (11, i64 (WY ls n : Int)), (12, i64 ((n + 1 : Nat) : Int))] ∧ H = [AjZ L 16]) 15 ?_ ?_
 ·exact ⟨0, rfl, by omega, fun k hk => by rw [Nat.le_zero.1 hk]; simp [Jf], rfl, rfl⟩
 ·rintro q e H ⟨n, rfl, hn, hok, rfl, rfl⟩
  by_cases hlt : n < 15
  ·have hLn := hL.2 (n + 1) (by omega)
   have hL1 := hL.1
   have hc := count_le ls (n + 1)
   have h0 := hok n (Nat.le_refl _)
   have h1 := Akp ls n hok
   have h2 := AkD ls hl n
   have h3 : 2 ^ n ≤ 2 ^ 15 := Nat.pow_le_pow_right (by omega) (by omega)
   obtain ⟨m, hm⟩ : ∃ m : Nat, Jf ls n = (m : Int) := ⟨(Jf ls n).toNat, by omega⟩
   have hml : m ≤ 32768 := by omega
   have hstep : Jf ls (n + 1) = (m : Int) * ((2 : Nat) : Int) - (ls.count (n + 1) : Int) := by rw [Jf, hm]; rfl
   by_cases hneg : ls.count (n + 1) ≤ m * 2
   ·have hcast : ((m * 2 : Nat) : Int) - (ls.count (n + 1) : Int) = ((m * 2 - ls.count (n + 1) : Nat) : Int) := by omega
    have hnew : Jf ls (n + 1) = ((m * 2 - ls.count (n + 1) : Nat) : Int) := by rw [hstep, ← hcast]; push_cast; rfl
    rw [hm]
    simp -dsimp (disch := first | assumption | omega | (simp only [Ae]; done) | (simp only [Ae]; omega)) only [↓Ag, Ac, Ah, Ai, eq_self, Nat.reduceEqDiff, ↓reduceIte, reduceCtorEq, ↓Bg, hLn]
    refine Am (15 - (n + 1)) (by omega) (by simp) ⟨n + 1, rfl, by omega, fun k hk => ?_, ?_, rfl⟩
    ·by_cases e : k = n + 1
     ·rw [e, hnew]; omega
     ·exact hok k (by omega)
    ·rw [hnew, WY]; rfl
   ·have hneg2 : m * 2 < ls.count (n + 1) := by omega
    have hnl : ¬ Mc ls 15 := fun h => by
     have := h (n + 1) (by omega)
     rw [hstep] at this
     push_cast at this
     omega
    rw [hm]
    simp -dsimp (disch := first | assumption | omega | (simp only [Ae]; done) | (simp only [Ae]; omega)) only [↓Ag, Ac, Ah, Ai, eq_self, Nat.reduceEqDiff, ↓reduceIte, reduceCtorEq, ↓Bg, hLn]
    exact hp hnl _ _
  ·have hn15 : n = 15 := by omega
   subst hn15
   simp -dsimp (disch := first | assumption | omega | (simp only [Ae]; done) | (simp only [Ae]; omega)) only [↓Ag, Ac, Ah, Ai, eq_self, Nat.reduceLT, Nat.reduceEqDiff, ↓reduceIte, Nat.reduceAdd, reduceCtorEq, ↓Bg]
   exact hq _ hok
/-- Where the codes begin. -/
def AxJ (ls : List Nat) (m : Nat) (M : List Nat) : Prop := M.length = 17 ∧ ∀ n, n ≤ m → M[n]? = some (stN ls n)
theorem ADY {ls L : List Nat} (hl : ls.length ≤ 1000) (hL : Avx ls L) (hok : Mc ls 15) {Q : VEx → Env → List Ob → Prop}
  (hq : ∀ M y, AxJ ls 16 M → Q .nor [(0, Cc ls), (7, .op 0 0 []), (13, .op 1 0 []), (14, i64 ((16 : Nat) : Int)), (73, y)] [AjZ L 16, AjZ M 17]) :
  vwp Tryd.prog (.loop [0, 7, 13, 14] LU) (Blk 4 Q) [(0, Cc ls), (7, .op 0 0 []), (13, .op 1 0 []), (14, i64 ((1 : Nat) : Int))] [AjZ L 16, AjZ (List.replicate 17 0) 17] := by
 refine Bi (fun q e H => ∃ (n : Nat) (M : List Nat), q = 15 - n ∧ n ≤ 15 ∧ e = [(0, Cc ls), (7, .op 0 0 []), (13, .op 1 0 []), (14, i64 ((n + 1 : Nat) : Int))] ∧ AxJ ls (n + 1) M ∧ H = [AjZ L 16, AjZ M 17]) 15 ?_ ?_
 ·refine ⟨0, List.replicate 17 0, rfl, by omega, rfl, ⟨rfl, fun n hn => ?_⟩, rfl⟩
  rw [List.getElem?_replicate, if_pos (by omega)]
  have : n = 0 ∨ n = 1 := by omega
  rcases this with rfl | rfl <;> rfl
 ·rintro q e H ⟨n, M, rfl, hn, rfl, ⟨hM1, hM2⟩, rfl⟩
  by_cases hlt : n < 15
  ·have hLn := hL.2 (n + 1) (by omega)
   have hL1 := hL.1
   have hMn := hM2 (n + 1) (Nat.le_refl _)
   obtain ⟨_, hb⟩ := Aox ls hok (n + 1) (by omega)
   have hb2 := hb (by omega) (by omega)
   have h3 : 2 ^ (n + 1) ≤ 2 ^ 15 := Nat.pow_le_pow_right (by omega) (by omega)
   obtain ⟨w, hw⟩ : ∃ w, M[n + 1 + 1]? = some w := ⟨_, List.getElem?_eq_getElem (by omega)⟩
   have hsh : (stN ls (n + 1) + ls.count (n + 1)) * 2 ^ 1 ≤ 9223372036854775807 := by omega
   simp -dsimp (disch := first | assumption | omega | (simp only [Ae]; done) | (simp only [Ae]; omega)) only [↓Ag, Ac, Ah, Ai, eq_self, Nat.reduceEqDiff, Nat.reducePow, ↓reduceIte, Nat.reduceAdd, reduceCtorEq, ↓Bg, hLn, hMn, hw]
   refine Am (15 - (n + 1)) (by omega) (by simp) ⟨n + 1, M.set (n + 1 + 1) ((stN ls (n + 1) + ls.count (n + 1)) * 2), rfl, by omega, rfl, ⟨by simp [hM1], fun k hk => ?_⟩, by simp only [AjZ, List.map_set]⟩
   by_cases hkn : k = n + 1 + 1
   ·subst hkn
    rw [List.getElem?_set_self (by omega), stN]
   ·rw [List.getElem?_set_ne (Ne.symm hkn)]
    exact hM2 k (by omega)
  ·have hn15 : n = 15 := by omega
   subst hn15
   simp -dsimp (disch := first | assumption | omega | (simp only [Ae]; done) | (simp only [Ae]; omega)) only [↓Ag, Ac, Ah, Ai, eq_self, Nat.reduceLT, Nat.reduceEqDiff, ↓reduceIte, Nat.reduceAdd, reduceCtorEq, ↓Bg]
   exact hq M _ ⟨hM1, hM2⟩
/-- The symbols one by one. -/
theorem AE1 {ls L M : List Nat} (hl : ls.length ≤ 1000) (h15 : ∀ n ∈ ls, n ≤ 15) (hok : Mc ls 15) (hM : AxJ ls 16 M) (hg : ArM ls) {Q : VEx → Env → List Ob → Prop}
  (hq : ∀ H v y, H[3]? = some (.obj 0 (.os 2 2 v [] 0 (DU ls ls.length).length (DU ls ls.length).length)) → H[2]? = some (.obj v (.arr (DU ls ls.length).length 2 ((DU ls ls.length).map plc))) → Q .nor [(13, .op 1 0 []), (15, .op 3 0 []), (89, Cc ls), (90, i64 (ls.length : Int)), (91, i64 (ls.length : Int)), (92, y)] H) :
  vwp Tryd.prog (.loop [13, 15, 89, 90, 91] JY) (Blk 6 Q) [(13, .op 1 0 []), (15, .op 3 0 []), (89, Cc ls), (90, i64 (ls.length : Int)), (91, i64 ((0 : Nat) : Int))] [AjZ L 16, AjZ M 17, .obj 0 (.arr 1 2 ([(0, 0)].map plc)), .obj 0 (.os 2 2 0 [] 0 1 1)] := by
 refine Bi (fun q e H => ∃ (i v : Nat) (M' : List Nat), q = ls.length - i ∧ i ≤ ls.length ∧ e = [(13, .op 1 0 []), (15, .op 3 0 []), (89, Cc ls), (90, i64 (ls.length : Int)), (91, i64 (i : Int))] ∧ M'.length = 17 ∧ (∀ n, n ≤ 15 → M'[n + 1]? = some (Ej ls (n + 1) i)) ∧
  H[1]? = some (AjZ M' 17) ∧ H[3]? = some (.obj 0 (.os 2 2 v [] 0 (DU ls i).length (DU ls i).length)) ∧ H[2]? = some (.obj v (.arr (DU ls i).length 2 ((DU ls i).map plc))) ∧ 4 ≤ H.length) ls.length ?_ ?_
 ·refine ⟨0, 0, M, rfl, by omega, rfl, hM.1, fun n hn => ?_, rfl, rfl, rfl, by simp⟩
  rw [hM.2 (n + 1) (by omega)]
  simp [Ej]
 ·rintro q e H ⟨i, v, M', rfl, hi, rfl, hM1, hM2, h1, h3, h2, h4⟩
  by_cases hlt : i < ls.length
  ·obtain ⟨n, hn⟩ : ∃ n, ls[i]? = some n := ⟨_, List.getElem?_eq_getElem hlt⟩
   have hn15 := h15 n (List.mem_of_getElem? hn)
   have htk : ls.take (i + 1) = ls.take i ++ [n] := by rw [List.take_add_one, hn]; rfl
   cases n with
   | zero =>
    have hgt : DU ls (i + 1) = DU ls i := by rw [DU, hn]
    simp -dsimp (disch := first | assumption | omega | (simp only [Ae]; done) | (simp only [Ae]; omega)) only [↓Ag, Ac, Ah, Ai, eq_self, Nat.reduceLT, Nat.reduceEqDiff, ↓reduceIte, Nat.reduceAdd, ↓Bg, hn]
    refine Am (ls.length - (i + 1)) (by omega) (by first | omega | (simp; omega)) ⟨i + 1, v, M', rfl, by omega, rfl, hM1, fun k hk => ?_, h1, by rw [hgt]; exact h3, by rw [hgt]; exact h2, h4⟩
    rw [hM2 k hk, Ej, Ej, htk, List.count_append]
    simp
   | succ n =>
    have hgt : DU ls (i + 1) = AhQ n (DU ls i) 0 (Ej ls (n + 1) i) i := by rw [DU, hn]
    have hMn := hM2 n (by omega)
    obtain ⟨_, hb⟩ := Aox ls hok (n + 1) (by omega)
    have hb2 := hb (by omega) (by omega)
    have hp3 : 2 ^ (n + 1) ≤ 2 ^ 15 := Nat.pow_le_pow_right (by omega) (by omega)
    have hcc : (ls.take i).count (n + 1) ≤ 1000 := Nat.le_trans List.count_le_length (by rw [List.length_take]; omega)
    have hcl : Ej ls (n + 1) i ≤ 100000 := by unfold Ej; omega
    have hgl := Al1 ls h15 i
    simp -dsimp (disch := first | assumption | omega | (simp only [Ae]; done) | (simp only [Ae]; omega)) only [↓Ag, Ac, Ah, Ai, eq_self, Nat.reduceEqDiff, ↓reduceIte, ↓Bg, hn, h1, hMn]
    refine Ap.mono (AFf h3 h2 (by omega) (by omega) (by omega) (by omega) (by omega) (hg i n hn)) ?_
    rintro x H2 ⟨v', k1, k2, k3, k4, _⟩
    have k5 : H2[1]? = some (AjZ M' 17) := by rw [k3 1 (by omega) (by omega) (by omega)]; exact h1
    have k5l := (List.getElem?_eq_some_iff.1 k5).1
    simp -dsimp (disch := first | assumption | omega | (simp only [Ae]; done) | (simp only [Ae]; omega)) only [↓Ag, Ac, Ah, Ai, eq_self, Nat.reduceEqDiff, ↓reduceIte, Nat.reduceAdd, k5, hMn]
    refine Am (ls.length - (i + 1)) (by omega) (by simp; omega) ⟨i + 1, v', M'.set (n + 1) (Ej ls (n + 1) i + 1), rfl, by omega, rfl, by simp [hM1], fun k hk => ?_, ?_, ?_, ?_, by simp; omega⟩
    ·by_cases hkn : k = n
     ·subst hkn
      rw [List.getElem?_set_self (by omega), Ej, Ej, htk, List.count_append]
      simp; omega
     ·rw [List.getElem?_set_ne (by omega), hM2 k hk, Ej, Ej, htk, List.count_append]
      have : List.count (k + 1) [n + 1] = 0 := by rw [List.count_eq_zero]; simpa using hkn
      rw [this]; rfl
    ·rw [List.getElem?_set_self k5l]; simp only [AjZ, List.map_set]
    ·rw [hgt, List.getElem?_set_ne (by omega)]; exact k1
    ·rw [hgt, List.getElem?_set_ne (by omega)]; exact k2
  ·have hil : i = ls.length := by omega
   subst hil
   simp -dsimp (disch := first | assumption | omega | (simp only [Ae]; done) | (simp only [Ae]; omega)) only [↓Ag, Ac, Ah, Ai, eq_self, Nat.reduceEqDiff, ↓reduceIte, ↓Bg]
   exact hq H v _ h3 h2
theorem Ap3 (T : List (Int × Int)) : Tz (T.map plc) = true := Aqo _ _ fun p => by simp [AkZ, Tz]
set_option maxHeartbeats 1000000 in
theorem ACy {ls : List Nat} {few non : Bool} (hl : ls.length ≤ 1000) (h15 : ∀ n ∈ ls, n ≤ 15) (hg : Mc ls 15 → ArM ls) :
  X9 Tryd.prog 28 [Cc ls, tb few, tb non] (fun x => okP ls few non ∧ x = Ael (DU ls ls.length)) (fun u => ¬ okP ls few non ∧ u = Amy 10) := by
 refine BR.toFreshPV (Ah9 (by simp) ?_)
 simp -dsimp (disch := first | assumption | omega) only [↓Ag, Ac, Ah, Ai, eq_self, Nat.reduceEqDiff, ↓reduceIte, Nat.reduceAdd, reduceCtorEq, ↓Bg]
 refine AAp hl h15 fun L y hL => ?_
 simp -dsimp (disch := first | assumption | omega) only [↓Ag, Ac, Ah, Ai, eq_self, Nat.reduceEqDiff, ↓reduceIte, reduceCtorEq, ↓Bg]
 refine ACD hl hL (fun y hok => ?_) (fun hno _ H => ?_)
 case refine_2 => exact ⟨fun h => hno h.1, rfl⟩
 have h0 := hok 15 (Nat.le_refl _)
 have h1 := Akp ls 15 hok
 have h2 := AkD ls hl 15
 obtain ⟨m, hm⟩ : ∃ m : Nat, Jf ls 15 = (m : Int) := ⟨(Jf ls 15).toNat, by omega⟩
 obtain ⟨us, hus⟩ : ∃ us, us = WY ls 15 := ⟨_, rfl⟩
 have hc1 := hL.2 1 (by omega)
 have hL1 := hL.1
 have good : okP ls few non → ∀ {y}, vwp Tryd.prog Jq (AjC VB (fun x H' => BV (frs H' x) fun x => okP ls few non ∧ x = Ael (DU ls ls.length)) (fun u _ => ¬ okP ls few non ∧ u = Amy 10)) [(0, Cc ls), (7, .op 0 0 []), (70, y)] [AjZ L 16] := by
  intro hokP y
  simp -dsimp (disch := first | assumption | omega) only [↓Ag, Ac, Ah, Ai, eq_self, Nat.reduceEqDiff, ↓reduceIte, reduceCtorEq, ↓Bg]
  refine ADY hl hL hok fun M y hM => ?_
  simp -dsimp (disch := first | assumption | omega) only [↓Ag, Ac, Ah, Ai, eq_self, Nat.reduceEqDiff, ↓reduceIte, Nat.reduceAdd, reduceCtorEq, Nat.reduceLeDiff, ↓Bg]
  refine AE1 hl h15 hok hM (hg hok) fun H v y k3 k2 => ?_
  simp -dsimp (disch := first | assumption | omega) only [↓Ag, Ac, Ah, Ai, eq_self, Nat.reduceEqDiff, ↓reduceIte, ↓Bg, k3, k2, Ap3]
  exact hokP
 rw [hm, ← hus]
 by_cases hm0 : m = 0
 ·have hokP : okP ls few non := ⟨hok, .inl (by omega)⟩
  have hmp : ¬ (0 < m) := by omega
  simp -dsimp (disch := first | assumption | omega) only [↓Ag, Ac, Ah, Ai, eq_self, Nat.reduceEqDiff, ↓reduceIte, reduceCtorEq, ↓A7]
  exact good hokP
 have hmp : 0 < m := by omega
 have hbad : ¬ (few = true ∧ us = 1 ∧ ls.count 1 = 1) → ¬ (non = true ∧ us = 0) → ¬ okP ls few non := by
  rintro c1 c2 ⟨_, h | h | h⟩
  ·omega
  ·rw [← hus] at h; exact c1 h
  ·rw [← hus] at h; exact c2 h
 cases few <;> cases non
 ·simp -dsimp (disch := first | assumption | omega) only [↓Ag, Ac, Ah, Ai, eq_self, Nat.reduceEqDiff, ↓reduceIte, reduceCtorEq, ↓A7]
  exact hbad (by simp) (by simp)
 ·by_cases hu0 : us = 0
  ·have hokP : okP ls false true := ⟨hok, .inr (.inr ⟨rfl, by omega⟩)⟩
   simp -dsimp (disch := first | assumption | omega) only [↓Ag, Ac, Ah, Ai, eq_self, Nat.reduceEqDiff, ↓reduceIte, reduceCtorEq, ↓A7, hu0]
   exact good hokP
  ·simp -dsimp (disch := first | assumption | omega) only [↓Ag, Ac, Ah, Ai, eq_self, Nat.reduceEqDiff, ↓reduceIte, reduceCtorEq, ↓A7]
   exact hbad (by simp) (by simp [hu0])
 ·by_cases hu1 : us = 1
  ·by_cases hc : ls.count 1 = 1
   ·have hokP : okP ls true false := ⟨hok, .inr (.inl ⟨rfl, by omega, hc⟩)⟩
    simp -dsimp (disch := first | assumption | omega) only [↓Ag, Ac, Ah, Ai, eq_self, Nat.reduceLT, Nat.reduceEqDiff, ↓reduceIte, reduceCtorEq, ↓A7, hu1, hc1, hc]
    exact good hokP
   ·simp -dsimp (disch := first | assumption | omega) only [↓Ag, Ac, Ah, Ai, eq_self, Nat.reduceLT, Nat.reduceEqDiff, ↓reduceIte, reduceCtorEq, ↓A7, hu1, hc1]
    exact hbad (by simp [hc]) (by simp)
  ·simp -dsimp (disch := first | assumption | omega) only [↓Ag, Ac, Ah, Ai, eq_self, Nat.reduceEqDiff, ↓reduceIte, reduceCtorEq, ↓A7]
   exact hbad (by simp [hu1]) (by simp)
 ·by_cases hu1 : us = 1
  ·have hu0 : ¬ (us = 0) := by omega
   by_cases hc : ls.count 1 = 1
   ·have hokP : okP ls true true := ⟨hok, .inr (.inl ⟨rfl, by omega, hc⟩)⟩
    simp -dsimp (disch := first | assumption | omega) only [↓Ag, Ac, Ah, Ai, eq_self, Nat.reduceLT, Nat.reduceEqDiff, ↓reduceIte, reduceCtorEq, ↓A7, hu1, hc1, hc]
    exact good hokP
   ·simp -dsimp (disch := first | assumption | omega) only [↓Ag, Ac, Ah, Ai, eq_self, Nat.reduceLT, Nat.reduceEqDiff, ↓reduceIte, reduceCtorEq, ↓A7, hu1, hc1]
    exact hbad (by simp [hc]) (by simp [hu0])
  ·by_cases hu0 : us = 0
   ·have hokP : okP ls true true := ⟨hok, .inr (.inr ⟨rfl, by omega⟩)⟩
    simp -dsimp (disch := first | assumption | omega) only [↓Ag, Ac, Ah, Ai, eq_self, Nat.reduceEqDiff, ↓reduceIte, reduceCtorEq, ↓A7, hu0]
    exact good hokP
   ·simp -dsimp (disch := first | assumption | omega) only [↓Ag, Ac, Ah, Ai, eq_self, Nat.reduceEqDiff, ↓reduceIte, reduceCtorEq, ↓A7]
    exact hbad (by simp [hu1]) (by simp [hu0])
end Go.Proofs.YtfgljddikcghhaaDoor


namespace Go.Proofs.YtfgljddikcghhaaDoor
open Go.RowKit
variable [AO]
set_option linter.unusedSectionVars false
set_option linter.unusedVariables false

section
omit [AO]
/-- A partial map, at one more place. -/
def Ayv {α : Type} (f : List Bool → Option α) (q : List Bool) (x : α) : List Bool → Option α := fun p => if p = q then some x else f p
theorem Gx {α : Type} {f : List Bool → Option α} {q : List Bool} {x : α} : Ayv f q x q = some x := by simp [Ayv]
theorem Cm {α : Type} {f : List Bool → Option α} {q p : List Bool} {x : α} (h : p ≠ q) : Ayv f q x p = f p := by simp [Ayv, h]
/-- What stands at the end of some bits. -/
def Auf (P C : List Bool → Option Nat) (q : List Bool) : Int := match C q with
 | some s => -1 - (s : Int)
 | none => match P q with
  | some a => (a : Int)
  | none => 0
/-- The tree T has places P and holds the code C. -/
structure Awq (T : List (Int × Int)) (P C : List Bool → Option Nat) : Prop where
 root : P [] = some 0
 lt : ∀ p a, P p = some a → a < T.length
 inj : ∀ p q a, P p = some a → P q = some a → p = q
 slot : ∀ p a b, P p = some a → Oj T a b = Auf P C (p ++ [b])
 pre : ∀ p b, P (p ++ [b]) ≠ none → P p ≠ none
 cpre : ∀ c b, C (c ++ [b]) ≠ none → P c ≠ none
theorem Am8 {p : List Bool} {b : Bool} : p ++ [b] ≠ [] := by simp
theorem AhZ {p q : List Bool} {b c : Bool} (h : p ++ [b] = q ++ [c]) : p = q ∧ b = c := by
 have := List.append_inj' h rfl
 exact ⟨this.1, by simpa using this.2⟩
theorem Alj {T : List (Int × Int)} {a : Nat} {b : Bool} {v : Int} (ha : a < T.length) (a' : Nat) (b' : Bool) : Oj (Ajv T a b v) a' b' = if a' = a ∧ b' = b then v else Oj T a' b' := by
 obtain ⟨p, hp⟩ : ∃ p, T[a]? = some p := ⟨_, List.getElem?_eq_getElem ha⟩
 have hs : Ajv T a b v = T.set a (if b then (p.1, v) else (v, p.2)) := by unfold Ajv; rw [hp]
 rw [hs]
 unfold Oj
 by_cases e : a' = a
 ·subst e
  rw [List.getElem?_set_self ha, hp]
  cases b <;> cases b' <;> simp
 ·rw [List.getElem?_set_ne (Ne.symm e)]
  simp [e]
theorem AuR {T : List (Int × Int)} {a : Nat} {b : Bool} {x : Int × Int} (ha : a < T.length) : Oj (T ++ [x]) a b = Oj T a b := by
 unfold Oj; rw [List.getElem?_append_left ha]
theorem AvL {T : List (Int × Int)} {b : Bool} : Oj (T ++ [(0, 0)]) T.length b = 0 := by
 unfold Oj; simp
/-- The bits of a number, the greatest first. -/
def WQ : Nat → Nat → List Bool
 | 0, _ => []
 | n + 1, v => (v / 2 ^ n % 2 == 1) :: WQ n v
theorem WU : ∀ n v, (WQ n v).length = n
 | 0, _ => rfl
 | n + 1, v => by rw [WQ, List.length_cons, WU n v]
def Ak4 (l : List Bool) : Nat := l.foldl (fun a b => a * 2 + (if b then 1 else 0)) 0
theorem Ah0 : ∀ (n : Nat) {T : List (Int × Int)} {P C : List Bool → Option Nat} {p : List Bool} {a code s : Nat}, Awq T P C → P p = some a → (∀ k, 1 ≤ k → k ≤ n → C (p ++ (WQ (n + 1) code).take k) = none) →
  AlT n T a code ∧ ∃ P', Awq (AhQ n T a code s) P' (Ayv C (p ++ WQ (n + 1) code) s)
 | 0, T, P, C, p, a, code, s, h, hp, hk => by
  have ha := h.lt p a hp
  refine ⟨ha, P, ?_⟩
  have hb : WQ (0 + 1) code = [code % 2 == 1] := by simp [WQ]
  rw [hb, AhQ]
  generalize (code % 2 == 1) = b
  refine ⟨h.root, fun p' a' h1 => by rw [AbS]; exact h.lt p' a' h1, h.inj, fun p' a' b' h1 => ?_, h.pre, fun c b' h1 => ?_⟩
  ·rw [Alj ha]
   unfold Auf
   by_cases e : p' ++ [b'] = p ++ [b]
   ·obtain ⟨rfl, rfl⟩ := AhZ e
    rw [hp] at h1; cases h1
    rw [if_pos ⟨rfl, rfl⟩, Gx]
   ·rw [Cm e, if_neg (fun hh => by
     obtain ⟨rfl, rfl⟩ := hh
     exact e (by rw [h.inj p' p a' h1 hp]))]
    exact h.slot p' a' b' h1
  ·by_cases e : c ++ [b'] = p ++ [b]
   ·obtain ⟨rfl, _⟩ := AhZ e
    rw [hp]; simp
   ·rw [Cm e] at h1
    exact h.cpre c b' h1
 | n + 1, T, P, C, p, a, code, s, h, hp, hk => by
  have ha := h.lt p a hp
  have hbits : WQ (n + 1 + 1) code = (code / 2 ^ (n + 1) % 2 == 1) :: WQ (n + 1) code := rfl
  rw [AhQ, AlT]
  generalize hbd : (code / 2 ^ (n + 1) % 2 == 1) = b at *
  have hC : C (p ++ [b]) = none := by
   have := hk 1 (Nat.le_refl _) (by omega)
   rw [hbits, List.take_succ_cons, List.take_zero] at this
   exact this
  have hk' : ∀ k, 1 ≤ k → k ≤ n → C (p ++ [b] ++ (WQ (n + 1) code).take k) = none := fun k h1 h2 => by
   have := hk (k + 1) (by omega) (by omega)
   rw [hbits, List.take_succ_cons] at this
   rw [List.append_assoc]; exact this
  have happ : p ++ WQ (n + 1 + 1) code = p ++ [b] ++ WQ (n + 1) code := by rw [hbits, List.append_assoc]; rfl
  have hsl := h.slot p a b hp
  rw [happ]
  cases hP : P (p ++ [b]) with
  | none =>
   have hsl0 : Oj T a b = 0 := by rw [hsl]; unfold Auf; rw [hC, hP]
   rw [if_pos hsl0, if_pos hsl0]
   have ha2 : a < (T ++ [(0, 0)]).length := by rw [List.length_append]; omega
   have h2 : Awq (Ajv (T ++ [(0, 0)]) a b (T.length : Int)) (Ayv P (p ++ [b]) T.length) C := by
    refine ⟨?_, fun p' a' h1 => ?_, fun p' q' a' h1 h2 => ?_, fun p' a' b' h1 => ?_, fun p' b' h1 => ?_, fun c b' h1 => ?_⟩
    ·rw [Cm (fun e => Am8 e.symm)]; exact h.root
    ·rw [AbS, List.length_append]
     by_cases e : p' = p ++ [b]
     ·subst e; rw [Gx] at h1; cases h1; simp
     ·rw [Cm e] at h1
      have := h.lt p' a' h1; simp; omega
    ·by_cases e : p' = p ++ [b]
     ·by_cases e2 : q' = p ++ [b]
      ·rw [e, e2]
      ·subst e; rw [Gx] at h1; cases h1
       rw [Cm e2] at h2
       have := h.lt q' _ h2; omega
     ·rw [Cm e] at h1
      by_cases e2 : q' = p ++ [b]
      ·subst e2; rw [Gx] at h2; cases h2
       have := h.lt p' _ h1; omega
      ·rw [Cm e2] at h2
       exact h.inj p' q' a' h1 h2
    ·rw [Alj ha2]
     by_cases e : p' = p ++ [b]
     ·subst e; rw [Gx] at h1; cases h1
      rw [if_neg (fun hh => by omega), AvL]
      have c1 : C (p ++ [b] ++ [b']) = none := by
       refine Classical.byContradiction fun hh => ?_
       exact h.cpre _ _ hh hP
      have c2 : P (p ++ [b] ++ [b']) = none := by
       refine Classical.byContradiction fun hh => ?_
       exact h.pre _ _ hh hP
      unfold Auf
      rw [c1, Cm (fun e => by have := congrArg List.length e; simp at this), c2]
     ·rw [Cm e] at h1
      have hl := h.lt p' a' h1
      by_cases e2 : p' ++ [b'] = p ++ [b]
      ·obtain ⟨rfl, rfl⟩ := AhZ e2
       rw [hp] at h1; cases h1
       rw [if_pos ⟨rfl, rfl⟩]
       unfold Auf
       rw [hC, Gx]
      ·rw [if_neg (fun hh => by
        obtain ⟨rfl, rfl⟩ := hh
        exact e2 (by rw [h.inj p' p a' h1 hp])), AuR hl, h.slot p' a' b' h1]
       unfold Auf
       rw [Cm e2]
    ·by_cases e : p' = p ++ [b]
     ·subst e; rw [Gx]; simp
     ·rw [Cm e]
      by_cases e2 : p' ++ [b'] = p ++ [b]
      ·obtain ⟨rfl, _⟩ := AhZ e2
       rw [hp]; simp
      ·rw [Cm e2] at h1
       exact h.pre p' b' h1
    ·by_cases e : c = p ++ [b]
     ·subst e; rw [Gx]; simp
     ·rw [Cm e]; exact h.cpre c b' h1
   obtain ⟨k1, P', k2⟩ := Ah0 n (s := s) h2 (p := p ++ [b]) Gx hk'
   exact ⟨⟨ha, k1⟩, P', k2⟩
  | some a2 =>
   have hsl2 : Oj T a b = (a2 : Int) := by rw [hsl]; unfold Auf; rw [hC, hP]
   have ha20 : a2 ≠ 0 := fun e => by
    subst e
    exact Am8 (h.inj _ _ _ hP h.root)
   have hne : ¬ Oj T a b = 0 := by rw [hsl2]; omega
   rw [if_neg hne, if_neg hne, hsl2, Int.toNat_natCast]
   obtain ⟨k1, P', k2⟩ := Ah0 n (s := s) h (p := p ++ [b]) hP hk'
   exact ⟨⟨ha, by omega, k1⟩, P', k2⟩
/-- A symbol is looked for bit by bit. -/
def ApF (C : List Bool → Option Nat) : List Bool → List Bool → Option (Nat × List Bool)
 | _, [] => none
 | p, b :: B => match C (p ++ [b]) with
  | some s => some (s, B)
  | none => ApF C (p ++ [b]) B
theorem Awq.srch_none {T : List (Int × Int)} {P C : List Bool → Option Nat} (h : Awq T P C) : ∀ (B p : List Bool), P p = none → ApF C p B = none
 | [], p, hp => rfl
 | b :: B, p, hp => by
  have c1 : C (p ++ [b]) = none := Classical.byContradiction fun hh => h.cpre _ _ hh hp
  have c2 : P (p ++ [b]) = none := Classical.byContradiction fun hh => h.pre _ _ hh hp
  rw [ApF, c1]
  exact h.srch_none B _ c2
theorem Awq.sym {T : List (Int × Int)} {P C : List Bool → Option Nat} (h : Awq T P C) : ∀ (B p : List Bool) (a : Nat), P p = some a → Zx T a B = ApF C p B
 | [], p, a, hp => by rw [Zx, ApF]
 | b :: B, p, a, hp => by
  have ha := h.lt p a hp
  obtain ⟨x, hx⟩ : ∃ x, T[a]? = some x := ⟨_, List.getElem?_eq_getElem ha⟩
  have hs := h.slot p a b hp
  have hs2 : Oj T a b = if b then x.2 else x.1 := by unfold Oj; rw [hx]
  rw [Zx, hx, ApF]
  simp only [← hs2, hs]
  unfold Auf
  cases hC : C (p ++ [b]) with
  | some s =>
   simp only
   rw [if_pos (by omega)]
   congr 2
   omega
  | none =>
   simp only
   cases hP : P (p ++ [b]) with
   | some a2 =>
    simp only
    have ha20 : a2 ≠ 0 := fun e => by
     subst e
     exact Am8 (h.inj _ _ _ hP h.root)
    rw [if_neg (by omega), if_neg (by omega), Int.toNat_natCast]
    exact h.sym B _ a2 hP
   | none =>
    simp only
    rw [if_neg (by omega), if_pos trivial]
    exact (h.srch_none B _ hP).symm
end
end Go.Proofs.YtfgljddikcghhaaDoor


namespace Go.Proofs.YtfgljddikcghhaaDoor
open Go.RowKit
variable [AO]
set_option linter.unusedSectionVars false
set_option linter.unusedVariables false
set_option linter.unusedSimpArgs false

/-- The document's reader of a code. -/
def rdC (ls bs : List Nat) : Rd := fun B => (Ajm ls bs 15 0 0 B).map fun p => (p.1, B.drop p.2)
section
omit [AO]
theorem AuJ {ls bs : List Nat} {n v i : Nat} (h : Ae0 ls bs n v = some i) : i < ls.length := by
 unfold Ae0 at h
 rw [List.find?_range_eq_some] at h
 simpa using h.2.1
theorem Aie {ls bs : List Nat} : ∀ {k n v : Nat} {B : List Bool} {i m : Nat}, Ajm ls bs k n v B = some (i, m) → i < ls.length ∧ n + 1 ≤ m ∧ m ≤ n + B.length
 | 0, n, v, B, i, m, h => by simp [Ajm] at h
 | k + 1, n, v, [], i, m, h => by simp [Ajm] at h
 | k + 1, n, v, b :: B, i, m, h => by
  rw [Ajm] at h
  split at h
  ·rename_i j hj
   cases h
   exact ⟨AuJ hj, Nat.le_refl _, by rw [List.length_cons]; omega⟩
  ·obtain ⟨h1, h2, h3⟩ := Aie h
   rw [List.length_cons]
   exact ⟨h1, by omega, by omega⟩
theorem Aet {ls bs : List Nat} {B B1 : List Bool} {y : Nat} (h : rdC ls bs B = some (y, B1)) : y < ls.length ∧ ∃ n, 1 ≤ n ∧ n ≤ B.length ∧ B1 = B.drop n := by
 unfold rdC at h
 obtain ⟨⟨i, m⟩, h1, h2⟩ := Option.map_eq_some_iff.1 h
 cases h2
 obtain ⟨k1, k2, k3⟩ := Aie h1
 exact ⟨k1, m, by omega, by omega, rfl⟩
end
/-- The stream's bits, as a call leaves it. -/
theorem ArC {id n at_ : Nat} {inn l : List UInt8} {o : TV} {most win : Int} {J : Option Nat} {H : List Ob} (hst : ET H id inn at_ o l most win J) (hn : n ≤ 16) (hi : inn.length ≤ 1000000) : Ap Tryd.prog 34 [.op id 0 [], i64 (n : Int)] H
  (fun x H' => Frm id none H H' ∧ H'.length = H.length ∧ if n ≤ ((AC inn).drop at_).length then x = i64 ((C9 (((AC inn).drop at_).take n) : Nat) : Int) ∧ ET H' id inn (at_ + n) o l most win J
   else x = i64 ((0 : Nat) : Int) ∧ H'[id]? = some (stm inn (8 * inn.length) o most win 10) ∧ AU o = 1) := by
 refine Ap.mono (AnX hst.row.width1 hst.ob hn hi hst.at_) ?_
 intro x H' hx
 have hat := hst.at_
 have hlt := hst.lt
 have hlen : ((AC inn).drop at_).length = 8 * inn.length - at_ := by rw [List.length_drop, Bj]
 by_cases hc : at_ + n ≤ 8 * inn.length
 ·rw [if_pos hc] at hx
  obtain ⟨rfl, rfl⟩ := hx
  refine ⟨Frm.set, by simp, ?_⟩
  rw [if_pos (by omega)]
  exact ⟨rfl, hst.moved (by simp [hlt]) hc Frm.set⟩
 ·rw [if_neg hc] at hx
  obtain ⟨rfl, rfl⟩ := hx
  refine ⟨Frm.set, by simp, ?_⟩
  rw [if_neg (by omega)]
  exact ⟨rfl, by simp [hlt], hst.row.width1⟩
theorem AwE {id at_ : Nat} {inn l : List UInt8} {o : TV} {most win : Int} {ls bs : List Nat} {J : Option Nat} {H : List Ob} (hst : ET H id inn at_ o l most win J) (hi : inn.length ≤ 1000000) (hlen : ls.length = bs.length) (hl3 : ls.length ≤ 1000) :
  Ap Tryd.prog 55 [.op id 0 [], .agg [Cc ls, Cc bs]] H
  (fun x H' => Frm id none H H' ∧ match rdC ls bs ((AC inn).drop at_) with
   | some (y, B) => x = i64 (y : Int) ∧ y < ls.length ∧ ∃ n, 1 ≤ n ∧ B = (AC inn).drop (at_ + n) ∧ ET H' id inn (at_ + n) o l most win J
   | none => x = i64 (-1) ∧ WF H' id inn most win 10) := by
 refine Ap.mono (Au2 hst.row.width1 hst.ob hi hst.at_ hlen hl3) ?_
 intro x H' hx
 have hlt := hst.lt
 unfold rdC
 split at hx
 ·rename_i i n hs
  obtain ⟨rfl, h2⟩ := hx
  obtain ⟨k1, k2, k3⟩ := Aie hs
  have hat := hst.at_
  rw [List.length_drop, Bj] at k3
  have hf : Frm id none H H' := Frm.of_lt h2
  rw [hs]
  exact ⟨hf, rfl, k1, n, by omega, by simp [List.drop_drop], hst.moved (by rw [h2 id hlt]; simp [hlt]) (by omega) hf⟩
 ·rename_i hs
  obtain ⟨rfl, a, ha, h2⟩ := hx
  have hf : Frm id none H H' := Frm.of_lt h2
  rw [hs]
  exact ⟨hf, rfl, by simp, a, o, ha, hst.row.width1, by rw [h2 id hlt]; simp [hlt]⟩
/-- Behind an error the bits lead nowhere. -/
theorem Ath {id err : Nat} {inn : List UInt8} {o : TV} {m f : Int} {ls bs : List Nat} {H : List Ob} (hw : AU o = 1) (he : err ≠ 0) (h : H[id]? = some (stm inn (8 * inn.length) o m f err)) (hi : inn.length ≤ 1000000) :
  Ap Tryd.prog 55 [.op id 0 [], .agg [Cc ls, Cc bs]] H (fun x H' => x = i64 (-1) ∧ ∀ k, k < H.length → H'[k]? = H[k]?) := by
 have hid : id < H.length := (List.getElem?_eq_some_iff.1 h).1
 refine MB (by simp) ?_
 simp -dsimp (disch := first | assumption | omega | (simp only [Ae]; done) | (simp only [Ae]; omega)) only [↓Ag, Ac, Ah, Ai, eq_self, Nat.reduceEqDiff, ↓reduceIte, Nat.reduceAdd, reduceCtorEq, ↓Az]
 refine Bi (fun q e H' => e = [(0, .op id 0 []), (3, .op H.length 0 []), (5, i64 ((0 : Nat) : Int)), (6, i64 ((1 : Nat) : Int))] ∧ H' = H ++ [.obj 0 (.agg [Cc ls, Cc bs])]) 15 ?_ ?_
 ·exact ⟨rfl, rfl⟩
 ·rintro q e H' ⟨rfl, rfl⟩
  have h' : (H ++ [.obj 0 (.agg [Cc ls, Cc bs])])[id]? = some (stm inn (8 * inn.length) o m f err) := by rw [List.getElem?_append_left (by simpa using hid)]; exact h
  simp -dsimp (disch := first | assumption | omega | (simp only [Ae]; done) | (simp only [Ae]; omega)) only [↓Ag, Ac, Ah, Ai, eq_self, Nat.reduceEqDiff, Nat.reduceMul, ↓reduceIte, reduceCtorEq, Nat.reduceLeDiff, ↓Az]
  refine Ap.mono (AnX (n := 1) hw h' (by omega) hi (Nat.le_refl _)) ?_
  intro x H' hx
  rw [if_neg (by omega), if_neg he, Bv h'] at hx
  obtain ⟨rfl, rfl⟩ := hx
  simp -dsimp (disch := first | assumption | omega | (simp only [Ae]; done) | (simp only [Ae]; omega)) only [↓Ag, Ac, Ah, Ai, eq_self, Nat.reduceEqDiff, ↓reduceIte, Nat.reduceAdd, reduceCtorEq, ↓Az, h']
  exact fun k hk => by rw [List.getElem?_append_left (by simpa using hk)]
theorem Awm {id at_ : Nat} {inn l : List UInt8} {o : TV} {most win : Int} {ls bs ld bd : List Nat} {J : Option Nat} {H : List Ob} (fuel : Nat) (hst : ET H id inn at_ o l most win J) (hfu : ((AC inn).drop at_).length < fuel) (hi : inn.length ≤ 1000000) (hlen : ls.length = bs.length) (hl3 : ls.length ≤ 1000) (hlen2 : ld.length = bd.length) (hl4 : ld.length ≤ 1000) (hm : -9223372036854775808 ≤ most ∧ most ≤ 1000000) (hw : -9223372036854775808 ≤ win ∧ win ≤ 9223372036854775807) :
  Ap Tryd.prog 38 [.op id 0 [], .agg [Cc ls, Cc bs], .agg [Cc ld, Cc bd]] H
  (fun x H' => Frm id J H H' ∧ match AgV (rdC ls bs) (rdC ld bd) most win fuel ((AC inn).drop at_) l with
   | .ok (B, l') => ∃ at' o' J', B = (AC inn).drop at' ∧ ET H' id inn at' o' l' most win J' ∧ Jn J J' H
   | .error e => WF H' id inn most win e) := by
 have hid := hst.lt
 have hJl : ∀ j, J = some j → j < H.length := by
  intro j hj
  have := hst.row; subst hj
  obtain ⟨v, _, h2⟩ := this
  exact (List.getElem?_eq_some_iff.1 h2).1
 refine KR (by simp) ?_
 simp -dsimp (disch := first | assumption | omega | (simp only [Ae]; done) | (simp only [Ae]; omega)) only [↓Ag, Ac, Ah, Ai, eq_self, Nat.reduceEqDiff, ↓reduceIte, Nat.reduceAdd, reduceCtorEq, ↓Aj]
 obtain ⟨H1, hH1⟩ : ∃ H1 : List Ob, H1 = H ++ [.obj 0 (.agg [Cc ls, Cc bs]), .obj 0 (.agg [Cc ld, Cc bd])] := ⟨_, rfl⟩
 have hH1l : H1.length = H.length + 2 := by rw [hH1]; simp
 have hF1 : Frm id none H H1 := ⟨by omega, fun i hi _ _ => by rw [hH1, List.getElem?_append_left hi]⟩
 have hst1 : ET H1 id inn at_ o l most win J := hst.moved (by rw [hH1, List.getElem?_append_left hid]; exact hst.ob) hst.at_ hF1
 have hL1 : H1[H.length]? = some (.obj 0 (.agg [Cc ls, Cc bs])) := by rw [hH1, List.getElem?_append_right (Nat.le_refl _)]; simp
 have hL2 : H1[H.length + 1]? = some (.obj 0 (.agg [Cc ld, Cc bd])) := by rw [hH1, List.getElem?_append_right (by omega)]; simp
 have fin : ∀ {H'}, Frm id J H1 H' → Frm id J H H' := fun h => ⟨by have := h.1; omega, fun i hi h1 h2 => by rw [h.2 i (by omega) h1 h2]; exact hF1.2 i hi h1 (by simp)⟩
 have finJ : ∀ {J'}, Jn J J' H1 → Jn J J' H := fun h => Or.imp (fun e => e) (fun h j hj => by have := h j hj; omega) h
 obtain ⟨R, hR⟩ : ∃ R, R = AgV (rdC ls bs) (rdC ld bd) most win fuel ((AC inn).drop at_) l := ⟨_, rfl⟩
 rw [← hR]
 refine Bi (fun q e H' => ∃ at1 o1 l1 J1, e = [(0, .op id 0 []), (4, .op H.length 0 []), (5, .op (H.length + 1) 0 [])] ∧ Frm id J H1 H' ∧
  ((∃ f, q = f + 1 ∧ ((AC inn).drop at1).length < f ∧ R = AgV (rdC ls bs) (rdC ld bd) most win f ((AC inn).drop at1) l1 ∧ ET H' id inn at1 o1 l1 most win J1 ∧ Jn J J1 H1) ∨ (q = 0 ∧ ∃ err, R = .error err ∧ WF H' id inn most win err))) (fuel + 1) ?_ ?_
 ·exact ⟨at_, o, l, J, by rfl, by rw [show H ++ [Ob.obj 0 (TV.agg [Cc ls, Cc bs])] ++ [Ob.obj 0 (TV.agg [Cc ld, Cc bd])] = H1 by rw [hH1, List.append_assoc]; rfl]; exact Frm.refl, .inl ⟨fuel, rfl, hfu, hR, by rw [show H ++ [Ob.obj 0 (TV.agg [Cc ls, Cc bs])] ++ [Ob.obj 0 (TV.agg [Cc ld, Cc bd])] = H1 by rw [hH1, List.append_assoc]; rfl]; exact hst1, Jn.refl⟩⟩
 ·rintro q e H' ⟨at1, o1, l1, J1, rfl, hfr, hc⟩
  have hlen1 := hfr.1
  rcases hc with ⟨f, rfl, hf, hR1, hs, hj⟩ | ⟨rfl, err, hR1, hb⟩
  case inr =>
   obtain ⟨b1, a2, o2, b2, b3, b4⟩ := hb
   simp -dsimp (disch := first | assumption | omega | (simp only [Ae]; done) | (simp only [Ae]; omega)) only [↓Ag, Ac, Ah, Ai, eq_self, Nat.reduceEqDiff, ↓reduceIte, Nat.reduceAdd, reduceCtorEq, ↓Aj, b4, b3]
   rw [hR1]
   exact ⟨fin hfr, b1, a2, o2, b2, b3, b4⟩
  obtain ⟨f, rfl⟩ : ∃ f', f = f' + 1 := ⟨f - 1, by omega⟩
  have ho := hs.ob
  have hk1 : H'[H.length]? = some (.obj 0 (.agg [Cc ls, Cc bs])) := by rw [hfr.2 _ (by omega) (by omega) (fun e => by have := hJl _ e; omega)]; exact hL1
  have hk2 : H'[H.length + 1]? = some (.obj 0 (.agg [Cc ld, Cc bd])) := by rw [hfr.2 _ (by omega) (by omega) (fun e => by have := hJl _ e; omega)]; exact hL2
  have hlt := hs.lt
  have hw1 := hs.row.width1
  simp -dsimp (disch := first | assumption | omega | (simp only [Ae]; done) | (simp only [Ae]; omega)) only [↓Ag, Ac, Ah, Ai, eq_self, Nat.reduceEqDiff, ↓reduceIte, Nat.reduceAdd, reduceCtorEq, ↓Aj, ho, hk1, hw1]
  refine Ap.mono (AwE hs hi hlen hl3) ?_
  intro x H2 hx
  obtain ⟨hf2, hx⟩ := hx
  rw [AgV] at hR1
  have hfr2 : Frm id J H1 H2 := hfr.trans hj hf2.weak
  split at hx
  case h_2 hnone =>
   rw [hnone] at hR1
   obtain ⟨rfl, hb⟩ := hx
   have hb' := hb
   obtain ⟨b1, a2, o2, b2, b3, b4⟩ := hb
   simp -dsimp (disch := first | assumption | omega | (simp only [Ae]; done) | (simp only [Ae]; omega)) only [↓Ag, Ac, Ah, Ai, eq_self, Nat.reduceEqDiff, ↓reduceIte, Nat.reduceAdd, reduceCtorEq, ↓Aj, b4, b3]
   rw [hR1]
   exact ⟨fin hfr2, hb'⟩
  rename_i y B1 hsome
  obtain ⟨rfl, hyl, n1, hn1, rfl, hs2⟩ := hx
  rw [hsome] at hR1
  have ho2 := hs2.ob
  have hB2 : ((AC inn).drop (at1 + n1)).length < f := by rw [List.length_drop, Bj] at hf ⊢; have := hs2.at_; omega
  have hk2' : H2[H.length + 1]? = some (.obj 0 (.agg [Cc ld, Cc bd])) := by rw [hf2.2 _ (by omega) (by omega) (by simp)]; exact hk2
  simp only at hR1
  by_cases hy : y < 256
  ·rw [if_pos hy] at hR1
   simp -dsimp (disch := first | assumption | omega | (simp only [Ae]; done) | (simp only [Ae]; omega)) only [↓Ag, Ac, Ah, Ai, eq_self, Nat.reduceEqDiff, ↓reduceIte, Nat.reduceAdd, reduceCtorEq, ↓Aj, ho2, hw1]
   refine Ap.mono (Ayl (b := UInt8.ofNat y) ho2 hs2.row hs2.ne (by have := hs2.len; omega) (by omega)) ?_
   intro x H3 hx
   simp only [ne_eq, not_true_eq_false, if_false] at hx
   have hl2 := hs2.len
   have hlt2 := hs2.lt
   by_cases hmo : most ≤ (l1.length : Int)
   ·rw [if_pos hmo] at hx hR1
    subst hx
    simp -dsimp (disch := first | assumption | omega | (simp only [Ae]; done) | (simp only [Ae]; omega)) only [↓Ag, Ac, Ah, Ai, eq_self, Nat.reduceEqDiff, ↓reduceIte, reduceCtorEq]
    exact Am 0 (by omega) (by have := hfr2.1; simp; omega) ⟨at1 + n1, o1, l1, J1, rfl, hfr2.trans hj Frm.set, .inr ⟨rfl, 11, hR1, by simp, at1 + n1, o1, hs2.at_, hw1, by simp [hlt2]⟩⟩
   ·rw [if_neg hmo] at hx hR1
    obtain ⟨o3, j, g1, g2, g3, g4, g5, g6⟩ := hx
    have hj2 : Jn J1 (some j) H2 := by
     rcases g4 with e | e
     ·exact .inl e.symm
     ·exact .inr fun j2 h2 => by cases h2; exact e
    simp -dsimp (disch := first | assumption | omega | (simp only [Ae]; done) | (simp only [Ae]; omega)) only [↓Ag, Ac, Ah, Ai, eq_self, Nat.reduceEqDiff, ↓reduceIte, reduceCtorEq]
    exact Am (f + 1) (by omega) (by have := hfr2.1; simp; omega) ⟨at1 + n1, o3, l1 ++ [UInt8.ofNat y], some j, rfl, hfr2.trans hj ⟨g6, g5⟩, .inl ⟨f, rfl, (by rw [List.length_drop] at hB2; exact hB2), hR1, ⟨g1, g2, by simpa using g3, hs2.at_, by simp; omega⟩, Jn.trans hfr2 hj hj2⟩⟩
  rw [if_neg hy] at hR1
  by_cases hy2 : y = 256
  ·subst hy2
   rw [if_pos rfl] at hR1
   simp -dsimp (disch := first | assumption | omega | (simp only [Ae]; done) | (simp only [Ae]; omega)) only [↓Ag, Ac, Ah, Ai, eq_self, Nat.reduceEqDiff, ↓reduceIte, Nat.reduceAdd, reduceCtorEq, ↓Aj, ho2, hw1]
   rw [hR1]
   exact ⟨fin hfr2, at1 + n1, o1, J1, rfl, hs2, finJ hj⟩
  rw [if_neg hy2] at hR1
  by_cases hy3 : 285 < y
  ·rw [if_pos hy3] at hR1
   simp -dsimp (disch := first | assumption | omega | (simp only [Ae]; done) | (simp only [Ae]; omega)) only [↓Ag, Ac, Ah, Ai, eq_self, Nat.reduceEqDiff, ↓reduceIte, Nat.reduceAdd, reduceCtorEq, ↓Aj, ho2, hw1]
   refine Ap.mono (Aeh (e := 10) hw1 ho2) ?_
   intro x H3 hx
   subst hx
   rw [if_pos rfl]
   simp -dsimp (disch := first | assumption | omega | (simp only [Ae]; done) | (simp only [Ae]; omega)) only [↓Ag, Ac, Ah, ↓Aj]
   rw [hR1]
   exact ⟨fin (hfr2.trans hj Frm.set), by simp, at1 + n1, o1, hs2.at_, hw1, by simp [hs2.lt]⟩
  rw [if_neg hy3] at hR1
  simp -dsimp (disch := first | assumption | omega | (simp only [Ae]; done) | (simp only [Ae]; omega)) only [↓Ag, Ac, Ah, Ai, eq_self, Nat.reduceEqDiff, ↓reduceIte, Nat.reduceAdd, reduceCtorEq, ↓Aj, ho2, hw1]
  have hy4 : 257 ≤ y ∧ y ≤ 285 := by omega
  refine (AnR y false hy4).calls rfl ?_
  rintro _ rfl
  have hlp : (if (false : Bool) = true then Bl 1 2 y else if y = 285 then (258, 0) else Bl 3 4 (y - 257)) = Ed y := by simp [Ed]
  rw [hlp]
  have hlb : (Ed y).1 ≤ 1000 ∧ (Ed y).2 ≤ 10 ∧ 1 ≤ (Ed y).1 := by
   unfold Ed
   split
   ·simp
   ·have := Aew (y - 257) (by omega)
    rw [AkE (y - 257) (by omega)] at this
    refine ⟨this.1, this.2, ?_⟩
    unfold Bl; split <;> simp only <;> omega
  obtain ⟨hlb1, hlb2, hlb3⟩ := hlb
  simp -dsimp (disch := first | assumption | omega | (simp only [Ae]; done) | (simp only [Ae]; omega)) only [↓Ag, Ac, Ah, Ai, eq_self, Nat.reduceEqDiff, ↓reduceIte, reduceCtorEq, ↓Aj]
  refine Ap.mono (ArC hs2 (n := (Ed y).2) (by omega) hi) ?_
  intro x H3 hx
  obtain ⟨hf3, hl3', hx⟩ := hx
  have hfr3 : Frm id J H1 H3 := hfr2.trans hj hf3.weak
  have hk23 : H3[H.length + 1]? = some (.obj 0 (.agg [Cc ld, Cc bd])) := by rw [hf3.2 _ (by have := hfr2.1; omega) (by omega) (by simp)]; exact hk2'
  rw [Ay3] at hR1
  by_cases hen : (Ed y).2 ≤ ((AC inn).drop (at1 + n1)).length
  case neg =>
   rw [if_neg hen] at hx
   rw [if_pos (by omega)] at hR1
   obtain ⟨rfl, ho3, _⟩ := hx
   have hlt3 : id < H3.length := (List.getElem?_eq_some_iff.1 ho3).1
   simp -dsimp (disch := first | assumption | omega | (simp only [Ae]; done) | (simp only [Ae]; omega)) only [↓Ag, Ac, Ah, Ai, eq_self, Nat.reduceEqDiff, ↓reduceIte, Nat.reduceAdd, reduceCtorEq, ↓Aj, hk23]
   refine Ap.mono (Ath hw1 (by decide) ho3 hi) ?_
   intro x H4 hx
   obtain ⟨rfl, h4⟩ := hx
   have ho4 : H4[id]? = some (stm inn (8 * inn.length) o1 most win 10) := by rw [h4 id hlt3]; exact ho3
   have hf4 : Frm id none H3 H4 := Frm.of_lt (o := stm inn (8 * inn.length) o1 most win 10) (fun k hk => by rw [h4 k hk, Bv ho3])
   simp -dsimp (disch := first | assumption | omega | (simp only [Ae]; done) | (simp only [Ae]; omega)) only [↓Ag, Ac, Ah, Ai, eq_self, Nat.reduceEqDiff, ↓reduceIte, Nat.reduceAdd, reduceCtorEq, ↓Aj, ho4, hw1]
   refine Ap.mono (Aeh (e := 10) hw1 ho4) ?_
   intro x H5 hx
   rw [if_neg (by decide)] at hx
   subst hx
   simp -dsimp (disch := first | assumption | omega | (simp only [Ae]; done) | (simp only [Ae]; omega)) only [↓Ag, Ac, Ah, ↓Aj]
   rw [hR1]
   exact ⟨fin ((hfr3.trans hj hf4.weak).trans hj Frm.set), by simp, _, o1, Nat.le_refl _, hw1, by simp [(List.getElem?_eq_some_iff.1 ho4).1]⟩
  rw [if_pos hen] at hx
  rw [if_neg (by omega)] at hR1
  obtain ⟨rfl, hs3⟩ := hx
  obtain ⟨n2, hn2⟩ : ∃ n2, n2 = C9 (((AC inn).drop (at1 + n1)).take (Ed y).2) := ⟨_, rfl⟩
  rw [← hn2]
  have hn2l : n2 ≤ 1024 := by
   have h1 := Agm (((AC inn).drop (at1 + n1)).take (Ed y).2)
   rw [← hn2] at h1
   have h2 : (((AC inn).drop (at1 + n1)).take (Ed y).2).length ≤ 10 := by rw [List.length_take]; omega
   have h3 : 2 ^ (((AC inn).drop (at1 + n1)).take (Ed y).2).length ≤ 2 ^ 10 := Nat.pow_le_pow_right (by omega) h2
   omega
  simp -dsimp (disch := first | assumption | omega | (simp only [Ae]; done) | (simp only [Ae]; omega)) only [↓Ag, Ac, Ah, Ai, eq_self, Nat.reduceEqDiff, ↓reduceIte, Nat.reduceAdd, reduceCtorEq, ↓Aj, hk23]
  refine Ap.mono (AwE hs3 hi hlen2 hl4) ?_
  intro x H4 hx
  obtain ⟨hf4, hx⟩ := hx
  have hfr4 : Frm id J H1 H4 := hfr3.trans hj hf4.weak
  have hdd : ((AC inn).drop (at1 + n1)).drop (Ed y).2 = (AC inn).drop (at1 + n1 + (Ed y).2) := by rw [List.drop_drop]
  rw [hdd] at hR1
  have hw3 := hs3.row.width1
  split at hx
  case h_2 hnone =>
   rw [hnone] at hR1
   obtain ⟨rfl, hb⟩ := hx
   obtain ⟨b1, a2, o2, b2, b3, b4⟩ := hb
   simp -dsimp (disch := first | assumption | omega | (simp only [Ae]; done) | (simp only [Ae]; omega)) only [↓Ag, Ac, Ah, Ai, eq_self, Nat.reduceEqDiff, ↓reduceIte, Nat.reduceAdd, reduceCtorEq, ↓Aj, b4, b3]
   refine Ap.mono (Aeh (e := 10) b3 b4) ?_
   intro x H5 hx
   rw [if_neg (by decide)] at hx
   subst hx
   simp -dsimp (disch := first | assumption | omega | (simp only [Ae]; done) | (simp only [Ae]; omega)) only [↓Ag, Ac, Ah, ↓Aj]
   rw [hR1]
   exact ⟨fin (hfr4.trans hj Frm.set), by simp, _, o2, b2, b3, by simp [(List.getElem?_eq_some_iff.1 b4).1]⟩
  rename_i d B2 hsome2
  obtain ⟨rfl, hdl, n3, hn3, rfl, hs4⟩ := hx
  rw [hsome2] at hR1
  have ho4 := hs4.ob
  simp only at hR1
  by_cases hd29 : 29 < d
  ·rw [if_pos hd29] at hR1
   simp -dsimp (disch := first | assumption | omega | (simp only [Ae]; done) | (simp only [Ae]; omega)) only [↓Ag, Ac, Ah, Ai, eq_self, Nat.reduceEqDiff, ↓reduceIte, Nat.reduceAdd, reduceCtorEq, ↓Aj, ho4, hw1]
   refine Ap.mono (Aeh (e := 10) hw1 ho4) ?_
   intro x H5 hx
   rw [if_pos rfl] at hx
   subst hx
   simp -dsimp (disch := first | assumption | omega | (simp only [Ae]; done) | (simp only [Ae]; omega)) only [↓Ag, Ac, Ah, ↓Aj]
   rw [hR1]
   exact ⟨fin (hfr4.trans hj Frm.set), by simp, _, o1, hs4.at_, hw1, by simp [hs4.lt]⟩
  rw [if_neg hd29] at hR1
  simp -dsimp (disch := first | assumption | omega | (simp only [Ae]; done) | (simp only [Ae]; omega)) only [↓Ag, Ac, Ah, Ai, eq_self, Nat.reduceEqDiff, ↓reduceIte, Nat.reduceAdd, reduceCtorEq, ↓Aj, ho4, hw1]
  have hd4 : d ≤ 29 := by omega
  refine (AnR d true hd4).calls rfl ?_
  rintro _ rfl
  rw [if_pos rfl]
  obtain ⟨hpb1, hpb2⟩ := Afv d (by omega)
  rw [Ah3 d (by omega)] at hpb1 hpb2
  have hpb3 : 1 ≤ (Bl 1 2 d).1 := by unfold Bl; split <;> simp only <;> omega
  simp -dsimp (disch := first | assumption | omega | (simp only [Ae]; done) | (simp only [Ae]; omega)) only [↓Ag, Ac, Ah, Ai, eq_self, Nat.reduceEqDiff, ↓reduceIte, reduceCtorEq, ↓Aj]
  refine Ap.mono (ArC hs4 (n := (Bl 1 2 d).2) (by omega) hi) ?_
  intro x H5 hx
  obtain ⟨hf5, hl5', hx⟩ := hx
  have hfr5 : Frm id J H1 H5 := hfr4.trans hj hf5.weak
  by_cases hen2 : (Bl 1 2 d).2 ≤ ((AC inn).drop (at1 + n1 + (Ed y).2 + n3)).length
  case neg =>
   rw [if_neg hen2] at hx
   rw [if_pos (by omega)] at hR1
   obtain ⟨rfl, ho5, _⟩ := hx
   simp -dsimp (disch := first | assumption | omega | (simp only [Ae]; done) | (simp only [Ae]; omega)) only [↓Ag, Ac, Ah, Ai, eq_self, Nat.reduceEqDiff, ↓reduceIte, Nat.reduceAdd, reduceCtorEq, ↓Aj, ho5, hw1]
   refine Ap.mono (Aeh (e := 10) hw1 ho5) ?_
   intro x H6 hx
   rw [if_neg (by decide)] at hx
   subst hx
   simp -dsimp (disch := first | assumption | omega | (simp only [Ae]; done) | (simp only [Ae]; omega)) only [↓Ag, Ac, Ah, ↓Aj]
   rw [hR1]
   exact ⟨fin (hfr5.trans hj Frm.set), by simp, _, o1, Nat.le_refl _, hw1, by simp [(List.getElem?_eq_some_iff.1 ho5).1]⟩
  rw [if_pos hen2] at hx
  rw [if_neg (by omega)] at hR1
  obtain ⟨rfl, hs5⟩ := hx
  obtain ⟨n4, hn4⟩ : ∃ n4, n4 = C9 (((AC inn).drop (at1 + n1 + (Ed y).2 + n3)).take (Bl 1 2 d).2) := ⟨_, rfl⟩
  rw [← hn4]
  rw [← hn4, ← hn2] at hR1
  have hn4l : n4 ≤ 65536 := by
   have h1 := Agm (((AC inn).drop (at1 + n1 + (Ed y).2 + n3)).take (Bl 1 2 d).2)
   rw [← hn4] at h1
   have h2 : (((AC inn).drop (at1 + n1 + (Ed y).2 + n3)).take (Bl 1 2 d).2).length ≤ 15 := by rw [List.length_take]; omega
   have h3 : 2 ^ (((AC inn).drop (at1 + n1 + (Ed y).2 + n3)).take (Bl 1 2 d).2).length ≤ 2 ^ 15 := Nat.pow_le_pow_right (by omega) h2
   omega
  obtain ⟨far, hfar⟩ : ∃ far, far = (Bl 1 2 d).1 + n4 := ⟨_, rfl⟩
  obtain ⟨n, hn⟩ : ∃ n, n = (Ed y).1 + n2 := ⟨_, rfl⟩
  have ho5 := hs5.ob
  have hl5 := hs5.len
  have hdd2 : ((AC inn).drop (at1 + n1 + (Ed y).2 + n3)).drop (Bl 1 2 d).2 = (AC inn).drop (at1 + n1 + (Ed y).2 + n3 + (Bl 1 2 d).2) := by rw [List.drop_drop]
  rw [← hfar, ← hn, hdd2] at hR1
  simp only at hR1
  have hB5 : (AC inn).length - (at1 + n1 + (Ed y).2 + n3 + (Bl 1 2 d).2) < f := by rw [List.length_drop, Bj] at hf; rw [Bj]; have := hs5.at_; omega
  have hE : (((Bl 1 2 d).1 : Int) + (n4 : Int)) = (far : Int) := by omega
  have hE2 : (((Ed y).1 : Int) + (n2 : Int)) = (n : Int) := by omega
  have bad : ∀ H6, H6 = H5.set id (stm inn (at1 + n1 + (Ed y).2 + n3 + (Bl 1 2 d).2) o1 most win 10) → Frm id J H H6 ∧ WF H6 id inn most win 10 := fun H6 h6 => by
   subst h6
   exact ⟨fin (hfr5.trans hj Frm.set), by simp, _, o1, hs5.at_, hw1, by simp [hs5.lt]⟩
  have hrow5 := hs5.row
  cases J1 with
  | none =>
   obtain ⟨rfl, rfl⟩ := hrow5
   rw [if_pos (.inl (by simp; omega))] at hR1
   simp -dsimp (disch := first | assumption | omega | (simp only [Ae]; done) | (simp only [Ae]; omega)) only [↓Ag, Ac, Ah, Ai, eq_self, Nat.reduceEqDiff, ↓reduceIte, Nat.reduceAdd, reduceCtorEq, ↓Aj, ho5, hE]
   refine Ap.mono (Aeh (e := 10) rfl ho5) ?_
   intro x H6 hx
   rw [if_pos rfl] at hx
   simp -dsimp (disch := first | assumption | omega | (simp only [Ae]; done) | (simp only [Ae]; omega)) only [↓Ag, Ac, Ah, ↓Aj]
   rw [hR1]
   exact bad _ hx
  | some j1 =>
   obtain ⟨v1, rfl, hjo⟩ := hrow5
   by_cases hfa : l1.length < far
   ·rw [if_pos (.inl hfa)] at hR1
    simp -dsimp (disch := first | assumption | omega | (simp only [Ae]; done) | (simp only [Ae]; omega)) only [↓Ag, Ac, Ah, Ai, eq_self, Nat.reduceEqDiff, ↓reduceIte, Nat.reduceAdd, reduceCtorEq, ↓Aj, ho5, hE]
    refine Ap.mono (Aeh (e := 10) rfl ho5) ?_
    intro x H6 hx
    rw [if_pos rfl] at hx
    simp -dsimp (disch := first | assumption | omega | (simp only [Ae]; done) | (simp only [Ae]; omega)) only [↓Ag, Ac, Ah, ↓Aj]
    rw [hR1]
    exact bad _ hx
   by_cases hfw : win < (far : Int)
   ·rw [if_pos (.inr hfw)] at hR1
    simp -dsimp (disch := first | assumption | omega | (simp only [Ae]; done) | (simp only [Ae]; omega)) only [↓Ag, Ac, Ah, Ai, eq_self, Nat.reduceEqDiff, ↓reduceIte, Nat.reduceAdd, reduceCtorEq, ↓Aj, ho5, hE]
    refine Ap.mono (Aeh (e := 10) rfl ho5) ?_
    intro x H6 hx
    rw [if_pos rfl] at hx
    simp -dsimp (disch := first | assumption | omega | (simp only [Ae]; done) | (simp only [Ae]; omega)) only [↓Ag, Ac, Ah, ↓Aj]
    rw [hR1]
    exact bad _ hx
   rw [if_neg (by omega)] at hR1
   simp -dsimp (disch := first | assumption | omega | (simp only [Ae]; done) | (simp only [Ae]; omega)) only [↓Ag, Ac, Ah, Ai, eq_self, Nat.reduceEqDiff, ↓reduceIte, Nat.reduceAdd, reduceCtorEq, ↓Aj, ho5, hE]
   subst hn
   refine AC9 (n := (Ed y).1 + n2) (far := far) hs5 hm (by omega) (by omega) (by omega) hi ?_ ?_
   ·intro l' J' o' H6 yy c1 c2 c3 c4
    rw [c1] at hR1
    have hl6 := c4.1
    have := hfr5.1
    simp -dsimp (disch := first | assumption | omega | (simp only [Ae]; done) | (simp only [Ae]; omega)) only [↓Ag]
    exact Am (f + 1) (by omega) (by omega) ⟨_, o', l', J', rfl, hfr5.trans hj c4, .inl ⟨f, rfl, hB5, hR1, c2, Jn.trans hfr5 hj c3⟩⟩
   ·intro H6 yy c1 c2 c4
    rw [c1] at hR1
    have hl6 := c4.1
    have := hfr5.1
    simp -dsimp (disch := first | assumption | omega | (simp only [Ae]; done) | (simp only [Ae]; omega)) only [↓Ag]
    exact Am 0 (by omega) (by omega) ⟨at_, o, l, J, rfl, hfr5.trans hj c4, .inr ⟨rfl, 11, hR1, c2⟩⟩
end Go.Proofs.YtfgljddikcghhaaDoor


namespace Go.Proofs.YtfgljddikcghhaaDoor
open Go.RowKit
variable [AO]
set_option linter.unusedSectionVars false
set_option linter.unusedVariables false
set_option linter.unusedSimpArgs false

/-- The document's reader of the code of these lengths. -/
def rdR (ls : List Nat) : Rd := rdC ls (CSt.all ls 15).bs
/-- The stream, as it goes well or at the end of its bits. -/
structure Afp (H : List Ob) (id : Nat) (inn : List UInt8) (at_ : Nat) (o : TV) (l : List UInt8) (most win : Int) (J : Option Nat) (ok : Bool) : Prop where
 ob : H[id]? = some (stm inn (if ok then at_ else 8 * inn.length) o most win (if ok then 0 else 10))
 row : AkX H o l J
 ne : J ≠ some id
 at_ : ok = true → at_ ≤ 8 * inn.length
 len : l.length ≤ 1000000
theorem ET.x {H : List Ob} {id : Nat} {inn : List UInt8} {at_ : Nat} {o : TV} {l : List UInt8} {most win : Int} {J : Option Nat} (h : ET H id inn at_ o l most win J) : Afp H id inn at_ o l most win J true := ⟨h.ob, h.row, h.ne, fun _ => h.at_, h.len⟩
theorem Afp.ok {H : List Ob} {id : Nat} {inn : List UInt8} {at_ : Nat} {o : TV} {l : List UInt8} {most win : Int} {J : Option Nat} (h : Afp H id inn at_ o l most win J true) : ET H id inn at_ o l most win J := ⟨h.ob, h.row, h.ne, h.at_ rfl, h.len⟩
theorem Afp.bad {H : List Ob} {id : Nat} {inn : List UInt8} {at_ : Nat} {o : TV} {l : List UInt8} {most win : Int} {J : Option Nat} (h : Afp H id inn at_ o l most win J false) : WF H id inn most win 10 := ⟨by simp, _, o, Nat.le_refl _, h.row.width1, h.ob⟩
theorem Afp.lt {H : List Ob} {id : Nat} {inn : List UInt8} {at_ : Nat} {o : TV} {l : List UInt8} {most win : Int} {J : Option Nat} {ok : Bool} (h : Afp H id inn at_ o l most win J ok) : id < H.length := (List.getElem?_eq_some_iff.1 h.ob).1
/-- New objects, and such as are not the stream's. -/
theorem Afp.keep {H H' : List Ob} {id : Nat} {inn : List UInt8} {at_ : Nat} {o : TV} {l : List UInt8} {most win : Int} {J : Option Nat} {ok : Bool} (h : Afp H id inn at_ o l most win J ok) (hk : ∀ i, i = id ∨ J = some i → H'[i]? = H[i]?) : Afp H' id inn at_ o l most win J ok := by
 refine ⟨by rw [hk id (.inl rfl)]; exact h.ob, ?_, h.ne, h.at_, h.len⟩
 have hr := h.row
 cases J with
 | none => exact hr
 | some j =>
  obtain ⟨v, h1, h2⟩ := hr
  exact ⟨v, h1, by rw [hk j (.inr rfl)]; exact h2⟩
theorem Afp.jlt {H : List Ob} {id : Nat} {inn : List UInt8} {at_ : Nat} {o : TV} {l : List UInt8} {most win : Int} {J : Option Nat} {ok : Bool} (h : Afp H id inn at_ o l most win J ok) {j : Nat} (hj : J = some j) : j < H.length := by
 have := h.row; subst hj
 obtain ⟨v, _, h2⟩ := this
 exact (List.getElem?_eq_some_iff.1 h2).1
theorem Afp.app {H : List Ob} {id : Nat} {inn : List UInt8} {at_ : Nat} {o : TV} {l : List UInt8} {most win : Int} {J : Option Nat} {ok : Bool} (h : Afp H id inn at_ o l most win J ok) {G : List Ob} : Afp (H ++ G) id inn at_ o l most win J ok := h.keep fun i hi => by
 rcases hi with rfl | hi
 ·exact List.getElem?_append_left h.lt
 ·exact List.getElem?_append_left (h.jlt hi)
theorem Afp.set {H : List Ob} {id : Nat} {inn : List UInt8} {at_ : Nat} {o : TV} {l : List UInt8} {most win : Int} {J : Option Nat} {ok : Bool} (h : Afp H id inn at_ o l most win J ok) {k : Nat} {x : Ob} (h1 : k ≠ id) (h2 : J ≠ some k) : Afp (H.set k x) id inn at_ o l most win J ok := h.keep fun i hi => by
 rcases hi with rfl | hi
 ·exact List.getElem?_set_ne h1
 ·exact List.getElem?_set_ne (fun e => h2 (by rw [e]; exact hi))
theorem AaN {id n at_ : Nat} {inn l : List UInt8} {o : TV} {most win : Int} {J : Option Nat} {ok : Bool} {H : List Ob} (hst : Afp H id inn at_ o l most win J ok) (hn : 1 ≤ n ∧ n ≤ 16) (hi : inn.length ≤ 1000000) : Ap Tryd.prog 34 [.op id 0 [], i64 (n : Int)] H
  (fun x H' => Frm id none H H' ∧ H'.length = H.length ∧ Afp H' id inn (at_ + n) o l most win J (ok && decide (n ≤ ((AC inn).drop at_).length)) ∧ x = i64 ((if ok && decide (n ≤ ((AC inn).drop at_).length) then C9 (((AC inn).drop at_).take n) else 0 : Nat) : Int)) := by
 have hlt := hst.lt
 cases ok with
 | true =>
  refine Ap.mono (ArC hst.ok hn.2 hi) ?_
  rintro x H' ⟨h1, h2, hx⟩
  refine ⟨h1, h2, ?_⟩
  rw [Bool.true_and]
  by_cases hc : n ≤ ((AC inn).drop at_).length
  ·rw [if_pos hc] at hx
   rw [decide_eq_true hc, if_pos rfl]
   exact ⟨hx.2.x, hx.1⟩
  ·rw [if_neg hc] at hx
   rw [decide_eq_false hc, if_neg (by simp)]
   exact ⟨⟨hx.2.1, hst.row.keep h1 hst.ne (.inl rfl), hst.ne, by simp, hst.len⟩, hx.1⟩
 | false =>
  refine Ap.mono (AnX hst.row.width1 hst.ob hn.2 hi (by simp)) ?_
  intro x H' hx
  have hob : H[id]? = some (stm inn (8 * inn.length) o most win 10) := hst.ob
  simp only [Bool.false_eq_true, if_false] at hx
  rw [if_neg (by omega), if_neg (by decide), Bv hob] at hx
  obtain ⟨rfl, rfl⟩ := hx
  rw [Bool.false_and, if_neg (by simp)]
  exact ⟨Frm.refl, rfl, ⟨hst.ob, hst.row, hst.ne, by simp, hst.len⟩, rfl⟩
section
omit [AO]
theorem VM (B : List Bool) : ∀ i, (Gl B i).length = 19
 | 0 => rfl
 | i + 1 => by rw [Gl, List.length_set, VM B i]
theorem DN (n : Nat) (B : List Bool) : C9 (B.take n) < 2 ^ n := by
 have h1 := Agm (B.take n)
 have h2 : (B.take n).length ≤ n := by rw [List.length_take]; omega
 have h3 : 2 ^ (B.take n).length ≤ 2 ^ n := Nat.pow_le_pow_right (by omega) h2
 omega
end
/-- The loop that reads the third code's lengths. -/
theorem ABa {id R1 R2 O T at_ n m k : Nat} {inn l : List UInt8} {o : TV} {most win : Int} {J : Option Nat} {H : List Ob} {Q : VEx → Env → List Ob → Prop} (hst : ET H id inn at_ o l most win J) (hi : inn.length ≤ 1000000) (hk : k ≤ 19)
  (hO : H[O]? = some (.obj 0 (.arr 19 1 (RZ.map fun (n : Nat) => i64 (n : Int))))) (hT : H[T]? = some (nsO 0 (Gl ((AC inn).drop at_) 0))) (hne : O ≠ id ∧ T ≠ id ∧ O ≠ T ∧ J ≠ some T)
  (hq : ∀ H' L y, Frm id (some T) H H' → L.length = 19 → H'[T]? = some (nsO 0 L) → (3 * k ≤ ((AC inn).drop at_).length → L = Gl ((AC inn).drop at_) k) → Afp H' id inn (at_ + 3 * k) o l most win J (decide (3 * k ≤ ((AC inn).drop at_).length)) → Q .nor [(0, .op id 0 []), (2, .op R1 0 []), (3, .op R2 0 []), (5, i64 (n : Int)), (6, i64 (m : Int)), (7, i64 (k : Int)), (8, .os 1 O 0 [] 0 19 19), (9, .os 1 T 0 [] 0 19 19), (10, i64 (k : Int)), (50, y)] H') :
  vwp Tryd.prog (.loop [0, 2, 3, 5, 6, 7, 8, 9, 10] Fa) (Blk 0 Q) [(0, .op id 0 []), (2, .op R1 0 []), (3, .op R2 0 []), (5, i64 (n : Int)), (6, i64 (m : Int)), (7, i64 (k : Int)), (8, .os 1 O 0 [] 0 19 19), (9, .os 1 T 0 [] 0 19 19), (10, i64 ((0 : Nat) : Int))] H := by
 refine Bi (fun q e H' => ∃ i : Nat, q = k - i ∧ i ≤ k ∧ e = [(0, .op id 0 []), (2, .op R1 0 []), (3, .op R2 0 []), (5, i64 (n : Int)), (6, i64 (m : Int)), (7, i64 (k : Int)), (8, .os 1 O 0 [] 0 19 19), (9, .os 1 T 0 [] 0 19 19), (10, i64 (i : Int))] ∧ Frm id (some T) H H' ∧
  (∃ L : List Nat, L.length = 19 ∧ H'[T]? = some (nsO 0 L) ∧ (3 * i ≤ ((AC inn).drop at_).length → L = Gl ((AC inn).drop at_) i)) ∧ Afp H' id inn (at_ + 3 * i) o l most win J (decide (3 * i ≤ ((AC inn).drop at_).length))) k ?_ ?_
 ·exact ⟨0, rfl, by omega, rfl, Frm.refl, ⟨_, VM _ _, hT, fun _ => rfl⟩, by simpa using hst.x⟩
 ·rintro q e H' ⟨i, rfl, hik, rfl, hfr, ⟨L, hL, h2, h3⟩, hs⟩
  by_cases hlt : i < k
  ·obtain ⟨ov, hov⟩ : ∃ ov, RZ[i]? = some ov := ⟨_, List.getElem?_eq_getElem (show i < 19 by omega)⟩
   have hov2 : ov < 19 := by
    have : ∀ x ∈ RZ, x < 19 := by decide
    exact this ov (List.mem_of_getElem? hov)
   have hO' : H'[O]? = some (.obj 0 (.arr 19 1 (RZ.map fun (n : Nat) => i64 (n : Int)))) := by rw [hfr.2 O (List.getElem?_eq_some_iff.1 hO).1 hne.1 (by simpa using Ne.symm hne.2.2.1)]; exact hO
   have hol : RZ.length = 19 := rfl
   simp -dsimp (disch := first | assumption | omega | (simp only [Ae]; done) | (simp only [Ae]; omega)) only [↓Ag, Ac, Ah, Ai, eq_self, Nat.reduceEqDiff, ↓reduceIte, reduceCtorEq, ↓Ak, hO', hov]
   refine Ap.callsP (Ap.mono (AaN (n := 3) hs (by omega) hi) ?_)
   rintro x H2 ⟨g1, g2, g3, hx⟩
   obtain ⟨v, hv⟩ : ∃ v : Nat, v = (if decide (3 * i ≤ ((AC inn).drop at_).length) && decide (3 ≤ ((AC inn).drop (at_ + 3 * i)).length) then C9 (((AC inn).drop (at_ + 3 * i)).take 3) else 0) := ⟨_, rfl⟩
   rw [← hv] at hx
   subst hx
   obtain ⟨lv, hlv⟩ : ∃ lv, L[ov]? = some lv := ⟨_, List.getElem?_eq_getElem (by omega)⟩
   have hT2 : H2[T]? = some (nsO 0 L) := by rw [g1.2 T (List.getElem?_eq_some_iff.1 h2).1 hne.2.1 (by simp)]; exact h2
   simp -dsimp (disch := first | assumption | omega | (simp only [Ae]; done) | (simp only [Ae]; omega)) only [↓Ag, Ac, Ah, Ai, eq_self, Nat.reduceEqDiff, ↓reduceIte, reduceCtorEq, hT2, hL, hlv]
   refine ⟨⟨?_, ?_⟩, ?_⟩
   ·have hset : (L.map fun (n : Nat) => i64 (n : Int)).set ov (i64 (v : Int)) = (L.set ov v).map fun (n : Nat) => i64 (n : Int) := by rw [List.map_set]
    have hTl : T < H2.length := (List.getElem?_eq_some_iff.1 hT2).1
    have hlen : ((AC inn).drop at_).length = (AC inn).length - at_ := List.length_drop
    have hlen2 : ((AC inn).drop (at_ + 3 * i)).length = (AC inn).length - (at_ + 3 * i) := List.length_drop
    have hok : (decide (3 * i ≤ ((AC inn).drop at_).length) && decide (3 ≤ ((AC inn).drop (at_ + 3 * i)).length)) = decide (3 * (i + 1) ≤ ((AC inn).drop at_).length) := by
     rw [← Bool.decide_and]
     congr 1
     rw [hlen, hlen2]
     apply propext; omega
    rw [hok] at g3 hv
    rw [hset]
    refine Am (k - (i + 1)) (by omega) (by have := hfr.1; simp; omega) ⟨i + 1, rfl, by omega, rfl, ?_, ⟨L.set ov v, by simp [hL], by simp [hTl, hL], fun hle => ?_⟩, ?_⟩
    ·refine hfr.trans (J' := some T) Jn.refl ⟨by simp [g2], fun j hj h1 h2 => ?_⟩
     rw [List.getElem?_set_ne (fun e => h2 (by rw [e]))]
     exact g1.2 j hj h1 (by simp)
    ·have hle' : 3 * (i + 1) ≤ ((AC inn).drop at_).length := by rw [hlen]; exact hle
     rw [if_pos (decide_eq_true hle')] at hv
     rw [Gl, h3 (by omega), hv, List.getD_eq_getElem?_getD, hov, List.drop_drop]
     rfl
    ·rw [show at_ + 3 * (i + 1) = at_ + 3 * i + 3 by omega, ← hlen]
     exact g3.set hne.2.1 hne.2.2.2
   ·change Abx [56] _ _ _
    intro s hs j ver p hg
    rw [List.mem_singleton] at hs
    subst hs
    simp [get] at hg
    obtain ⟨rfl, _⟩ := hg
    exact List.getElem?_set_ne (Ne.symm hne.2.2.1)
   ·change Abx [56] _ _ _
    intro s hs j ver p hg
    rw [List.mem_singleton] at hs
    subst hs
    simp [get] at hg
    obtain ⟨rfl, _⟩ := hg
    exact g1.2 O (by have := (List.getElem?_eq_some_iff.1 hO').1; omega) hne.1 (by simp)
  ·have hik2 : i = k := by omega
   subst hik2
   simp -dsimp (disch := first | assumption | omega | (simp only [Ae]; done) | (simp only [Ae]; omega)) only [↓Ag, Ac, Ah, Ai, eq_self, Nat.reduceEqDiff, ↓reduceIte, reduceCtorEq, ↓Ak]
   exact hq H' L _ hfr hL h2 h3 hs
end Go.Proofs.YtfgljddikcghhaaDoor


namespace Go.Proofs.YtfgljddikcghhaaDoor
open Go.RowKit
variable [AO]
set_option linter.unusedSectionVars false
set_option linter.unusedVariables false

theorem Aoz (ls : List Nat) (n i : Nat) : (ls.take (i + 1)).count n = (ls.take i).count n + (if ls[i]? = some n then 1 else 0) := by
 rw [List.take_add_one, List.count_append]
 congr 1
 cases h : ls[i]? with
 | none => simp
 | some m =>
  by_cases e : m = n
  ·subst e; simp
  ·simp [e]
/-- A row of the document's code. -/
theorem AiW (ls : List Nat) (n : Nat) (s : CSt) : ∀ i, (CSt.row ls n i s).nx = s.nx + (ls.take i).count n ∧ (CSt.row ls n i s).us = s.us + (ls.take i).count n ∧ (CSt.row ls n i s).sp = s.sp + (ls.take i).count n * 2 ^ (15 - n) ∧
  (CSt.row ls n i s).lg = (if (ls.take i).count n = 0 then s.lg else n) ∧ ∀ k, (CSt.row ls n i s).bs[k]? = (if k < i ∧ ls[k]? = some n ∧ k < s.bs.length then some (s.nx + (ls.take k).count n) else s.bs[k]?)
 | 0 => by simp [CSt.row]
 | i + 1 => by
  obtain ⟨h1, h2, h3, h4, h5⟩ := AiW ls n s i
  have hbl := CSt.row_len ls n i s
  rw [CSt.row, Aoz]
  generalize CSt.row ls n i s = t at *
  unfold CSt.one
  by_cases e : ls[i]? = some n
  ·rw [if_pos e, if_pos e]
   refine ⟨by show t.nx + 1 = _; omega, by show t.us + 1 = _; omega, by show t.sp + _ = _; rw [h3, Nat.add_mul]; omega, by simp, fun k => ?_⟩
   show (t.bs.set i t.nx)[k]? = _
   by_cases ek : k = i
   ·subst ek
    by_cases hkl : k < s.bs.length
    ·rw [List.getElem?_set_self (by omega), h1, if_pos ⟨by omega, e, hkl⟩]
    ·rw [List.getElem?_eq_none (by simp; omega), if_neg (by omega), List.getElem?_eq_none (by omega)]
   ·rw [List.getElem?_set_ne (Ne.symm ek), h5 k]
    by_cases hc : k < i ∧ ls[k]? = some n ∧ k < s.bs.length
    ·rw [if_pos hc, if_pos ⟨by omega, hc.2⟩]
    ·rw [if_neg hc, if_neg (fun hh => hc ⟨by omega, hh.2⟩)]
  ·rw [if_neg e, if_neg e]
   refine ⟨by omega, by omega, by rw [h3]; simp, by rw [h4]; simp, fun k => ?_⟩
   rw [h5 k]
   by_cases hc : k < i ∧ ls[k]? = some n ∧ k < s.bs.length
   ·rw [if_pos hc, if_pos ⟨by omega, hc.2⟩]
   ·rw [if_neg hc, if_neg (fun hh => hc ⟨by
     have : k ≠ i := fun e2 => e (by rw [← e2]; exact hh.2.1)
     omega, hh.2⟩)]
theorem AnY (ls : List Nat) : ∀ n, (CSt.all ls n).nx * 2 = stN ls (n + 1)
 | 0 => by simp [CSt.all, stN]
 | n + 1 => by
  have h := (AiW ls (n + 1) { CSt.all ls n with nx := (CSt.all ls n).nx * 2 } ls.length).1
  rw [List.take_length] at h
  have e : (CSt.all ls (n + 1)).nx = (CSt.all ls n).nx * 2 + ls.count (n + 1) := h
  rw [e, AnY ls n, stN]
theorem AqS (ls : List Nat) (n : Nat) : (CSt.all ls (n + 1)).nx = stN ls (n + 1) + ls.count (n + 1) := by
 have h := (AiW ls (n + 1) { CSt.all ls n with nx := (CSt.all ls n).nx * 2 } ls.length).1
 rw [List.take_length] at h
 have e : (CSt.all ls (n + 1)).nx = (CSt.all ls n).nx * 2 + ls.count (n + 1) := h
 rw [e, AnY]
theorem AnO (ls : List Nat) : ∀ n, (CSt.all ls n).us = WY ls n
 | 0 => rfl
 | n + 1 => by
  have h := (AiW ls (n + 1) { CSt.all ls n with nx := (CSt.all ls n).nx * 2 } ls.length).2.1
  rw [List.take_length] at h
  have e : (CSt.all ls (n + 1)).us = (CSt.all ls n).us + ls.count (n + 1) := h
  rw [e, AnO ls n, WY]
theorem ABt (ls : List Nat) (n : Nat) : (CSt.all ls (n + 1)).lg = if ls.count (n + 1) = 0 then (CSt.all ls n).lg else n + 1 := by
 have h := (AiW ls (n + 1) { CSt.all ls n with nx := (CSt.all ls n).nx * 2 } ls.length).2.2.2.1
 rw [List.take_length] at h
 exact h
theorem Ap5 (ls : List Nat) (n : Nat) : (CSt.all ls (n + 1)).sp = (CSt.all ls n).sp + ls.count (n + 1) * 2 ^ (15 - (n + 1)) := by
 have h := (AiW ls (n + 1) { CSt.all ls n with nx := (CSt.all ls n).nx * 2 } ls.length).2.2.1
 rw [List.take_length] at h
 exact h
theorem Awj (ls : List Nat) : ∀ n, n ≤ 15 → (CSt.all ls n).sp = (CSt.all ls n).nx * 2 ^ (15 - n)
 | 0, _ => by simp [CSt.all]
 | n + 1, hn => by
  rw [Ap5, Awj ls n (by omega), AqS, ← AnY, Nat.add_mul]
  congr 1
  rw [show 15 - n = (15 - (n + 1)) + 1 by omega, Nat.pow_succ, Nat.mul_comm (2 ^ (15 - (n + 1))) 2, ← Nat.mul_assoc]
theorem Amc (ls : List Nat) : ∀ n, n ≤ 15 → (CSt.all ls n).sp ≤ (CSt.all ls n).us * 16384
 | 0, _ => by simp [CSt.all]
 | n + 1, hn => by
  have ih := Amc ls n (by omega)
  rw [Ap5, AnO, WY, ← AnO, Nat.add_mul]
  have h : 2 ^ (15 - (n + 1)) ≤ 2 ^ 14 := Nat.pow_le_pow_right (by omega) (by omega)
  have := Nat.mul_le_mul_left (ls.count (n + 1)) h
  omega
theorem Awt (ls : List Nat) {i m : Nat} (hi : ls[i]? = some (m + 1)) : ∀ n, m + 1 ≤ n → (CSt.all ls n).bs[i]? = some (Ej ls (m + 1) i)
 | 0, h => by omega
 | n + 1, h => by
  have hil : i < ls.length := (List.getElem?_eq_some_iff.1 hi).1
  have hrow := (AiW ls (n + 1) { CSt.all ls n with nx := (CSt.all ls n).nx * 2 } ls.length).2.2.2.2 i
  have hlen : (CSt.all ls n).bs.length = ls.length := CSt.all_len ls n
  have e : (CSt.all ls (n + 1)).bs[i]? = if i < ls.length ∧ ls[i]? = some (n + 1) ∧ i < (CSt.all ls n).bs.length then some ((CSt.all ls n).nx * 2 + (ls.take i).count (n + 1)) else (CSt.all ls n).bs[i]? := hrow
  rw [e]
  by_cases hmn : m = n
  ·subst hmn
   rw [if_pos ⟨hil, hi, by omega⟩, AnY, Ej]
  ·rw [if_neg (by rw [hi]; simp; omega)]
   exact Awt ls hi n (by omega)
theorem ABl (ls : List Nat) : ∀ n, WY ls n = 0 → ∀ k, 1 ≤ k → k ≤ n → ls.count k = 0
 | 0, _, k, h1, h2 => by omega
 | n + 1, h, k, h1, h2 => by
  rw [WY] at h
  by_cases e : k = n + 1
  ·rw [e]; omega
  ·exact ABl ls n (by omega) k h1 (by omega)
theorem AwO (ls : List Nat) : ∀ n, WY ls n = 1 → ((CSt.all ls n).lg = 1 ↔ ls.count 1 = 1)
 | 0, h => by simp [WY] at h
 | n + 1, h => by
  rw [WY] at h
  rw [ABt]
  by_cases hc : ls.count (n + 1) = 0
  ·rw [if_pos hc]
   exact AwO ls n (by omega)
  ·rw [if_neg hc]
   have h0 : WY ls n = 0 := by omega
   by_cases hn : n = 0
   ·subst hn
    have hc1 : ls.count (0 + 1) = 1 := by omega
    exact ⟨fun _ => hc1, fun _ => rfl⟩
   ·have := ABl ls n h0 1 (Nat.le_refl _) (by omega)
    omega
theorem Als (ls : List Nat) : ∀ n m, n ≤ m → Jf ls n < 0 → Jf ls m < 0
 | n, 0, h, hl => by rw [Nat.le_zero.1 h] at hl; exact hl
 | n, m + 1, h, hl => by
  by_cases e : n = m + 1
  ·rw [← e]; exact hl
  ·have := Als ls n m (by omega) hl
   rw [Jf]; omega
theorem Awz (ls : List Nat) : Jf ls 15 = 32768 - ((CSt.all ls 15).sp : Int) := by
 have h : Jf ls 15 = (2 : Int) ^ 15 - ((stN ls 15 + ls.count 15 : Nat) : Int) := AhP ls 14
 have h2 : (CSt.all ls 15).nx = stN ls 15 + ls.count 15 := AqS ls 14
 have h3 := Awj ls 15 (Nat.le_refl _)
 rw [h, ← h2, h3]
 simp
theorem Aks (ls : List Nat) (h : (CSt.all ls 15).sp ≤ 32768) : Mc ls 15 := fun k hk => by
 refine Classical.byContradiction fun hn => ?_
 have := Als ls k 15 hk (by omega)
 rw [Awz] at this
 omega
/-- Both know the same codes. -/
theorem Akd (ls : List Nat) (few non : Bool) : okC ls few non = true ↔ okP ls few non := by
 have hl := Awz ls
 have hu := AnO ls 15
 have hs := Amc ls 15 (Nat.le_refl _)
 unfold okC okP
 simp only [Bool.or_eq_true, Bool.and_eq_true, decide_eq_true_eq]
 constructor
 ·rintro (h | ⟨⟨h1, h2⟩, h3⟩ | ⟨h1, h2⟩)
  ·exact ⟨Aks ls (by omega), .inl (by omega)⟩
  ·have hu1 : WY ls 15 = 1 := by omega
   exact ⟨Aks ls (by omega), .inr (.inl ⟨h1, hu1, (AwO ls 15 hu1).1 h3⟩)⟩
  ·exact ⟨Aks ls (by omega), .inr (.inr ⟨h1, by omega⟩)⟩
 ·rintro ⟨h0, h | ⟨h1, h2, h3⟩ | ⟨h1, h2⟩⟩
  ·have := h0 15 (Nat.le_refl _)
   exact .inl (by omega)
  ·exact .inr (.inl ⟨⟨h1, by omega⟩, (AwO ls 15 h2).2 h3⟩)
  ·exact .inr (.inr ⟨h1, by omega⟩)
end Go.Proofs.YtfgljddikcghhaaDoor


namespace Go.Proofs.YtfgljddikcghhaaDoor
open Go.RowKit
variable [AO]
set_option linter.unusedSectionVars false
set_option linter.unusedVariables false

section
omit [AO]
theorem Ais (l : List Bool) (b : Bool) : Ak4 (l ++ [b]) = Ak4 l * 2 + (if b then 1 else 0) := by unfold Ak4; rw [List.foldl_append]; rfl
theorem AjY : ∀ (N v k acc : Nat), k ≤ N → ((WQ N v).take k).foldl (fun a b => a * 2 + (if b then 1 else 0)) acc = acc * 2 ^ k + v / 2 ^ (N - k) % 2 ^ k
 | N, v, 0, acc, h => by simp [Nat.mod_one]
 | 0, v, k + 1, acc, h => by omega
 | N + 1, v, k + 1, acc, h => by
  have hb : (if (v / 2 ^ N % 2 == 1) = true then 1 else 0) = v / 2 ^ N % 2 := by
   rcases Nat.mod_two_eq_zero_or_one (v / 2 ^ N) with h | h <;> simp [h]
  rw [WQ, List.take_succ_cons, List.foldl_cons, hb, AjY N v k _ (by omega), show N + 1 - (k + 1) = N - k by omega]
  have e1 : v / 2 ^ N = v / 2 ^ (N - k) / 2 ^ k := by rw [Nat.div_div_eq_div_mul, ← Nat.pow_add, Nat.sub_add_cancel (by omega)]
  rw [e1]
  generalize v / 2 ^ (N - k) = x
  rw [Nat.pow_succ, Nat.mod_mul, Nat.add_mul, Nat.mul_assoc acc 2 (2 ^ k), Nat.mul_comm 2 (2 ^ k), Nat.mul_comm (x / 2 ^ k % 2) (2 ^ k)]
  omega
theorem AlZ {N v k : Nat} (h : k ≤ N) (hv : v < 2 ^ N) : Ak4 ((WQ N v).take k) = v / 2 ^ (N - k) := by
 unfold Ak4
 rw [AjY N v k 0 h, Nat.zero_mul, Nat.zero_add, Nat.mod_eq_of_lt]
 rw [Nat.div_lt_iff_lt_mul (Nat.two_pow_pos _), ← Nat.pow_add, Nat.add_comm, Nat.sub_add_cancel h]
 exact hv
theorem Ail {N v : Nat} (hv : v < 2 ^ N) : Ak4 (WQ N v) = v := by
 have := AlZ (k := N) (Nat.le_refl _) hv
 rwa [List.take_of_length_le (by rw [WU]; omega), Nat.sub_self, Nat.pow_zero, Nat.div_one] at this
theorem AyZ {P : List Bool → Prop} (h0 : P []) (h1 : ∀ l b, P l → P (l ++ [b])) : ∀ l, P l := by
 intro l
 rw [← List.reverse_reverse l]
 induction l.reverse with
 | nil => exact h0
 | cons b r ih => rw [List.reverse_cons]; exact h1 _ _ ih
theorem AsY : ∀ (l m : List Bool), l.length = m.length → Ak4 l = Ak4 m → l = m := by
 refine AyZ (fun m h _ => (List.length_eq_zero_iff.1 h.symm).symm) fun l b ih m h hv => ?_
 rcases List.eq_nil_or_concat m with rfl | ⟨m', c, rfl⟩
 ·simp at h
 ·rw [List.concat_eq_append] at *
  rw [Ais, Ais] at hv
  have hlen : l.length = m'.length := by simpa using h
  have hbc : b = c ∧ Ak4 l = Ak4 m' := by cases b <;> cases c <;> simp at hv ⊢ <;> omega
  rw [hbc.1, ih m' hlen hbc.2]
/-- The first i symbols' code. -/
def Cf (ls : List Nat) (i : Nat) (q : List Bool) : Option Nat := (List.range i).find? fun s => decide (ls[s]? = some q.length ∧ q.length ≠ 0 ∧ Ej ls q.length s = Ak4 q)
theorem AiI {ls : List Nat} {i : Nat} {q : List Bool} (h : ∀ s, s < i → ¬ (ls[s]? = some q.length ∧ q.length ≠ 0 ∧ Ej ls q.length s = Ak4 q)) : Cf ls i q = none := by
 unfold Cf
 rw [List.find?_range_eq_none]
 intro j hj
 rw [Bool.not_eq_true', decide_eq_false_iff_not]
 exact h j hj
theorem Arw (ls : List Nat) (i : Nat) (q : List Bool) : Cf ls (i + 1) q = match Cf ls i q with
  | some s => some s
  | none => if ls[i]? = some q.length ∧ q.length ≠ 0 ∧ Ej ls q.length i = Ak4 q then some i else none := by
 unfold Cf
 rw [List.range_succ, List.find?_append]
 cases (List.range i).find? fun s => decide (ls[s]? = some q.length ∧ q.length ≠ 0 ∧ Ej ls q.length s = Ak4 q) with
 | some s => rfl
 | none =>
  simp only [Option.none_or, List.find?_cons, List.find?_nil]
  by_cases h : ls[i]? = some q.length ∧ q.length ≠ 0 ∧ Ej ls q.length i = Ak4 q
  ·rw [if_pos h, decide_eq_true h]
  ·rw [if_neg h, decide_eq_false h]
theorem AkF {ls : List Nat} {n s : Nat} (h : ls[s]? = some n) : (ls.take s).count n < ls.count n := by
 have hs : s < ls.length := (List.getElem?_eq_some_iff.1 h).1
 have h1 : (ls.take (s + 1)).count n ≤ ls.count n := List.Sublist.count_le n (List.take_sublist _ _)
 rw [List.take_add_one, h, List.count_append] at h1
 simp at h1
 omega
theorem AqE {ls : List Nat} {n s i : Nat} (h : ls[s]? = some n) (hi : s < i) : (ls.take s).count n < (ls.take i).count n := by
 have h2 : (ls.take i)[s]? = some n := by rw [List.getElem?_take, if_pos hi]; exact h
 have := AkF h2
 rwa [List.take_take, Nat.min_eq_left (by omega)] at this
theorem An5 (ls : List Nat) (m : Nat) (hm : 1 ≤ m) : ∀ d, (stN ls m + ls.count m) * 2 ^ (d + 1) ≤ stN ls (m + (d + 1))
 | 0 => by
  obtain ⟨k, rfl⟩ : ∃ k, m = k + 1 := ⟨m - 1, by omega⟩
  rw [show k + 1 + (0 + 1) = k + 2 by omega, stN]
  simp
 | d + 1 => by
  have h := An5 ls m hm d
  obtain ⟨k, hk⟩ : ∃ k, m + (d + 1) = k + 1 := ⟨m + d, by omega⟩
  rw [show m + (d + 1 + 1) = k + 2 by omega, stN, ← hk]
  rw [Nat.pow_succ, ← Nat.mul_assoc]
  omega
theorem Aqn {ls : List Nat} (hok : Mc ls 15) {n i : Nat} (hn : n + 1 ≤ 15) (hi : ls[i]? = some (n + 1)) : Ej ls (n + 1) i < 2 ^ (n + 1) := by
 have h1 := (Aox ls hok (n + 1) (by omega)).2 (by omega) hn
 have h2 := AkF hi
 unfold Ej; omega
theorem Asj {ls : List Nat} (hok : Mc ls 15) {n i : Nat} (hn : n + 1 ≤ 15) (hi : ls[i]? = some (n + 1)) {k : Nat} (h1 : 1 ≤ k) (h2 : k ≤ n) : Cf ls i ((WQ (n + 1) (Ej ls (n + 1) i)).take k) = none := by
 have hlt := Aqn hok hn hi
 have hlen : ((WQ (n + 1) (Ej ls (n + 1) i)).take k).length = k := by rw [List.length_take, WU]; omega
 refine AiI fun s hs ⟨c1, _, c2⟩ => ?_
 rw [hlen] at c1 c2
 rw [AlZ (by omega) hlt] at c2
 have h3 : Ej ls k s < stN ls k + ls.count k := by have := AkF c1; unfold Ej; omega
 obtain ⟨d, hd⟩ : ∃ d, n + 1 - k = d + 1 := ⟨n - k, by omega⟩
 have h4 := An5 ls k h1 d
 rw [show k + (d + 1) = n + 1 by omega] at h4
 rw [hd] at c2
 have h5 : stN ls k + ls.count k ≤ Ej ls (n + 1) i / 2 ^ (d + 1) := by
  rw [Nat.le_div_iff_mul_le (Nat.two_pow_pos _)]
  have : stN ls (n + 1) ≤ Ej ls (n + 1) i := by unfold Ej; omega
  omega
 omega
theorem AAX {ls : List Nat} (hok : Mc ls 15) {n i : Nat} (hn : n + 1 ≤ 15) (hi : ls[i]? = some (n + 1)) : Cf ls (i + 1) = Ayv (Cf ls i) ([] ++ WQ (n + 1) (Ej ls (n + 1) i)) i := by
 have hlt := Aqn hok hn hi
 funext q
 rw [Arw, List.nil_append]
 by_cases hq : q = WQ (n + 1) (Ej ls (n + 1) i)
 ·subst hq
  rw [Gx, AiI]
  ·simp only
   rw [if_pos]
   rw [WU, Ail hlt]
   exact ⟨hi, by omega, rfl⟩
  ·rintro s hs ⟨c1, _, c2⟩
   rw [WU] at c1 c2
   rw [Ail hlt] at c2
   have := AqE c1 hs
   unfold Ej at c2
   omega
 ·rw [Cm hq]
  cases hC : Cf ls i q with
  | some s => rfl
  | none =>
   simp only
   rw [if_neg]
   rintro ⟨c1, _, c2⟩
   rw [hi] at c1
   have e : n + 1 = q.length := by simpa using c1
   rw [← e] at c2
   exact hq (AsY _ _ (by rw [WU, e]) (by rw [Ail hlt, c2]))
theorem AkS {ls : List Nat} (h15 : ∀ n ∈ ls, n ≤ 15) (hok : Mc ls 15) : ∀ i, i ≤ ls.length → ∃ P, Awq (DU ls i) P (Cf ls i)
 | 0, _ => by
  refine ⟨fun q => if q = [] then some 0 else none, ⟨rfl, fun p a h => ?_, fun p q a h1 h2 => ?_, fun p a b h => ?_, fun p b h => ?_, fun c b h => ?_⟩⟩
  ·split at h
   ·cases h; simp [DU]
   ·cases h
  ·split at h1
   ·split at h2
    ·rename_i e1 e2; rw [e1, e2]
    ·cases h2
   ·cases h1
  ·split at h
   ·cases h
    have : Cf ls 0 (p ++ [b]) = none := AiI fun s hs => by omega
    unfold Auf
    rw [this]
    simp [DU, Oj]
   ·cases h
  ·simp at h
  ·exact absurd (AiI fun s hs => by omega) h
 | i + 1, hi => by
  obtain ⟨P, hP⟩ := AkS h15 hok i (by omega)
  obtain ⟨n, hn⟩ : ∃ n, ls[i]? = some n := ⟨_, List.getElem?_eq_getElem (by omega)⟩
  have hn15 := h15 n (List.mem_of_getElem? hn)
  cases n with
  | zero =>
   refine ⟨P, ?_⟩
   have hg : DU ls (i + 1) = DU ls i := by rw [DU, hn]
   have hc : Cf ls (i + 1) = Cf ls i := by
    funext q
    rw [Arw]
    cases Cf ls i q with
    | some s => rfl
    | none =>
     simp only
     rw [if_neg]
     rintro ⟨c1, c2, _⟩
     rw [hn] at c1
     exact c2 (by simpa using c1.symm)
   rw [hg, hc]; exact hP
  | succ n =>
   have hg : DU ls (i + 1) = AhQ n (DU ls i) 0 (Ej ls (n + 1) i) i := by rw [DU, hn]
   obtain ⟨_, P', hP'⟩ := Ah0 n (s := i) (code := Ej ls (n + 1) i) hP hP.root (fun k h1 h2 => by rw [List.nil_append]; exact Asj hok hn15 hn h1 h2)
   exact ⟨P', by rw [hg, AAX hok hn15 hn]; exact hP'⟩
theorem AxL {ls : List Nat} (h15 : ∀ n ∈ ls, n ≤ 15) (hok : Mc ls 15) : ArM ls := fun i n hn => by
 obtain ⟨P, hP⟩ := AkS h15 hok i (Nat.le_of_lt (List.getElem?_eq_some_iff.1 hn).1)
 exact (Ah0 n (s := i) (code := Ej ls (n + 1) i) hP hP.root (fun k h1 h2 => by rw [List.nil_append]; exact Asj hok (h15 _ (List.mem_of_getElem? hn)) hn h1 h2)).1
theorem Al6 {C : List Bool → Option Nat} : ∀ (B p : List Bool), (∀ q, p.length < q.length → C q = none) → ApF C p B = none
 | [], p, h => rfl
 | b :: B, p, h => by
  rw [ApF, h (p ++ [b]) (by simp)]
  exact Al6 B _ fun q hq => h q (by simp at hq; omega)
end
/-- The document's reader looks for the same. -/
theorem Atj {ls : List Nat} (h15 : ∀ n ∈ ls, n ≤ 15) (q : List Bool) (hq : q.length ≠ 0) : Ae0 ls (CSt.all ls 15).bs q.length (Ak4 q) = Cf ls ls.length q := by
 unfold Ae0 Cf
 congr 1
 funext s
 by_cases h : ls[s]? = some q.length
 ·obtain ⟨m, hm⟩ : ∃ m, q.length = m + 1 := ⟨q.length - 1, by omega⟩
  rw [hm] at h ⊢
  have hle := h15 _ (List.mem_of_getElem? h)
  rw [Awt ls h 15 hle]
  simp [h]
 ·simp [h]
theorem AlL {ls : List Nat} (h15 : ∀ n ∈ ls, n ≤ 15) : ∀ (k : Nat) (p B : List Bool), p.length + k = 15 → (Ajm ls (CSt.all ls 15).bs k p.length (Ak4 p) B).map (fun x => (x.1, (p ++ B).drop x.2)) = ApF (Cf ls ls.length) p B
 | 0, p, B, h => by
  rw [Ajm, Al6]
  ·rfl
  ·intro q hq
   refine AiI fun s hs ⟨c1, _⟩ => ?_
   have := h15 _ (List.mem_of_getElem? c1)
   omega
 | k + 1, p, [], h => by rw [Ajm, ApF]; rfl
 | k + 1, p, b :: B, h => by
  have hst := Ais p b
  have hl : (p ++ [b]).length = p.length + 1 := by simp
  have hf := Atj h15 (p ++ [b]) (by simp)
  rw [hl, hst] at hf
  rw [Ajm, ApF, hf]
  cases hC : Cf ls ls.length (p ++ [b]) with
  | some s =>
   simp only [Option.map_some]
   rw [show p ++ b :: B = (p ++ [b]) ++ B by simp, List.drop_left' hl]
  | none =>
   simp only
   have ih := AlL h15 k (p ++ [b]) B (by rw [hl]; omega)
   rw [hl, hst, List.append_assoc] at ih
   exact ih
theorem Aum {ls : List Nat} (h15 : ∀ n ∈ ls, n ≤ 15) (B : List Bool) : rdR ls B = ApF (Cf ls ls.length) [] B := by
 have := AlL h15 15 [] B rfl
 rw [← this]
 rfl
/-- The tree reads as the document's code. -/
theorem AA2 {ls : List Nat} (h15 : ∀ n ∈ ls, n ≤ 15) (hok : Mc ls 15) : Zx (DU ls ls.length) 0 = rdR ls := by
 funext B
 obtain ⟨P, hP⟩ := AkS h15 hok ls.length (Nat.le_refl _)
 rw [hP.sym B [] 0 hP.root, Aum h15]
end Go.Proofs.YtfgljddikcghhaaDoor


namespace Go.Proofs.YtfgljddikcghhaaDoor
open Go.RowKit
variable [AO]
set_option linter.unusedSectionVars false
set_option linter.unusedVariables false
set_option linter.unusedSimpArgs false

abbrev AiR : TV := .val (.slice none 0 0)
abbrev Du : Ob := .obj 0 (.agg [AiR, AiR])
theorem ADh {id R1 R2 n m C W v what times : Nat} {row : List Nat} {H : List Ob} {Q : VEx → Env → List Ob → Prop} (hW : H[W]? = some (nsO v row)) (ht : times ≤ 1000) (hrow : row.length ≤ 1000)
  (hq : ∀ H' v' y, Frm W none H H' → H'[W]? = some (nsO v' (row ++ List.replicate times what)) → Q .nor [(0, .op id 0 []), (2, .op R1 0 []), (3, .op R2 0 []), (5, i64 (n : Int)), (6, i64 (m : Int)), (11, .op C 0 []), (13, .os 1 W v' [] 0 (row.length + times) (row.length + times)), (15, i64 (what : Int)), (16, i64 (times : Int)), (17, i64 (times : Int)), (143, y)] H') :
  vwp Tryd.prog (.loop [0, 2, 3, 5, 6, 11, 13, 15, 16, 17] Ei) (Blk 5 Q) [(0, .op id 0 []), (2, .op R1 0 []), (3, .op R2 0 []), (5, i64 (n : Int)), (6, i64 (m : Int)), (11, .op C 0 []), (13, .os 1 W v [] 0 row.length row.length), (15, i64 (what : Int)), (16, i64 (times : Int)), (17, i64 ((0 : Nat) : Int))] H := by
 refine Bi (fun q e H' => ∃ k v' : Nat, q = times - k ∧ k ≤ times ∧ e = [(0, .op id 0 []), (2, .op R1 0 []), (3, .op R2 0 []), (5, i64 (n : Int)), (6, i64 (m : Int)), (11, .op C 0 []), (13, .os 1 W v' [] 0 (row.length + k) (row.length + k)), (15, i64 (what : Int)), (16, i64 (times : Int)), (17, i64 (k : Int))] ∧ Frm W none H H' ∧ H'[W]? = some (nsO v' (row ++ List.replicate k what))) times ?_ ?_
 ·exact ⟨0, v, rfl, by omega, rfl, Frm.refl, by simpa using hW⟩
 ·rintro q e H' ⟨k, v', rfl, hk, rfl, hfr, h1⟩
  have hWl : W < H'.length := (List.getElem?_eq_some_iff.1 h1).1
  by_cases hlt : k < times
  ·have hll : (row ++ List.replicate k what).length = row.length + k := by simp
   simp -dsimp (disch := first | assumption | omega | (simp only [Ae]; done) | (simp only [Ae]; omega)) only [↓Ag, Ac, Ah, Ai, eq_self, Nat.reduceEqDiff, ↓reduceIte, reduceCtorEq, Nat.reduceLeDiff, ↓Ak, h1, DJ, hll]
   refine Am (times - (k + 1)) (by omega) (by have := hfr.1; simp; omega) ⟨k + 1, v' + 1, rfl, by omega, rfl, ?_, ?_⟩
   ·exact hfr.trans Jn.refl ⟨by simp, fun i hi h2 _ => by rw [List.getElem?_append_left (by simpa using hi), List.getElem?_set_ne (Ne.symm h2)]⟩
   ·rw [List.getElem?_append_left (by simpa using hWl), List.getElem?_set_self hWl, List.replicate_succ', ← List.append_assoc]
    simp; omega
  ·have hkn : k = times := by omega
   subst hkn
   simp -dsimp (disch := first | assumption | omega | (simp only [Ae]; done) | (simp only [Ae]; omega)) only [↓Ag, Ac, Ah, Ai, eq_self, Nat.reduceEqDiff, ↓reduceIte, reduceCtorEq, ↓Ak]
   exact hq H' v' _ hfr h1
/-- Behind a symbol: how often what. -/
theorem AB7 {id R1 R2 n m C W v what times at_ : Nat} {inn l : List UInt8} {o : TV} {most win : Int} {J : Option Nat} {ok : Bool} {row : List Nat} {E : Env} {H : List Ob} {Q : VEx → Env → List Ob → Prop} (hs : Afp H id inn at_ o l most win J ok) (hR1 : H[R1]? = some Du) (hR2 : H[R2]? = some Du) (hW : H[W]? = some (nsO v row)) (ht : times ≤ 1000) (hrow : row.length ≤ 1000) (hn : n ≤ 1000 ∧ m ≤ 1000)
  (hbad : ok = false ∨ n + m < row.length + times → Q .ret [(2, .op R1 0 []), (3, .op R2 0 []), (4, tb false)] H)
  (hgood : ok = true → row.length + times ≤ n + m → ∀ H' v' y, Frm W none H H' → H'[W]? = some (nsO v' (row ++ List.replicate times what)) → Q .nor [(0, .op id 0 []), (2, .op R1 0 []), (3, .op R2 0 []), (5, i64 (n : Int)), (6, i64 (m : Int)), (11, .op C 0 []), (13, .os 1 W v' [] 0 (row.length + times) (row.length + times)), (15, i64 (what : Int)), (16, i64 (times : Int)), (17, i64 (times : Int)), (143, y)] H') :
  vwp Tryd.prog Em Q ((0, .op id 0 []) :: (2, .op R1 0 []) :: (3, .op R2 0 []) :: (5, i64 (n : Int)) :: (6, i64 (m : Int)) :: (11, .op C 0 []) :: (13, .os 1 W v [] 0 row.length row.length) :: (15, i64 (what : Int)) :: (16, i64 (times : Int)) :: E) H := by
 have ho := hs.ob
 have hw := hs.row.width1
 have hR1l := (List.getElem?_eq_some_iff.1 hR1).1
 have hR2l := (List.getElem?_eq_some_iff.1 hR2).1
 cases ok with
 | false =>
  simp only [Bool.false_eq_true, if_false] at ho
  simp -dsimp (disch := first | assumption | omega | (simp only [Ae]; done) | (simp only [Ae]; omega)) only [↓Ag, Ac, Ah, Ai, eq_self, Nat.reduceEqDiff, ↓reduceIte, Nat.reduceAdd, reduceCtorEq, ↓Ak, ho, hw, hR1, hR2, Bv hR1, Bv hR2]
  exact hbad (.inl rfl)
 | true =>
  simp only [if_true] at ho
  by_cases hc : n + m < row.length + times
  ·simp -dsimp (disch := first | assumption | omega | (simp only [Ae]; done) | (simp only [Ae]; omega)) only [↓Ag, Ac, Ah, Ai, eq_self, Nat.reduceEqDiff, ↓reduceIte, Nat.reduceAdd, reduceCtorEq, ↓Ak, ho, hw, hR1, hR2, Bv hR1, Bv hR2]
   exact hbad (.inr hc)
  ·simp -dsimp (disch := first | assumption | omega | (simp only [Ae]; done) | (simp only [Ae]; omega)) only [↓Ag, Ac, Ah, Ai, eq_self, Nat.reduceEqDiff, ↓reduceIte, Nat.reduceAdd, reduceCtorEq, ↓Ak, ho, hw]
   refine ADh hW ht hrow fun H' v' y h1 h2 => ?_
   exact hgood rfl (by omega) H' v' y h1 h2
set_option maxHeartbeats 400000 in
/-- The rows. -/
theorem ADV {id R1 R2 n m C W v at_ : Nat} {inn l : List UInt8} {o : TV} {most win : Int} {J : Option Nat} {cl cb : List Nat} {E : Env} {H : List Ob} {Q : VEx → Env → List Ob → Prop} (hE : forget [0, 2, 3, 5, 6, 11, 13] E = [(0, .op id 0 []), (2, .op R1 0 []), (3, .op R2 0 []), (5, i64 (n : Int)), (6, i64 (m : Int)), (11, .op C 0 []), (13, .os 1 W v [] 0 0 0)]) (hst : ET H id inn at_ o l most win J) (hi : inn.length ≤ 1000000) (hlen : cl.length = cb.length) (hl3 : cl.length ≤ 1000) (hn : n ≤ 500 ∧ m ≤ 400)
  (hR1 : H[R1]? = some Du) (hR2 : H[R2]? = some Du) (hC : H[C]? = some (.obj 0 (.agg [Cc cl, Cc cb]))) (hW : H[W]? = some (nsO v [])) (hne : R1 ≠ id ∧ R2 ≠ id ∧ C ≠ id ∧ W ≠ id ∧ R1 ≠ W ∧ R2 ≠ W ∧ C ≠ W ∧ J ≠ some W)
  (hbad : Q9 (rdC cl cb) (n + m) (n + m + 1) ((AC inn).drop at_) [] = none → ∀ H', Frm id (some W) H H' → ((∃ at2, ET H' id inn at2 o l most win J) ∨ WF H' id inn most win 10) → Q .ret [(2, .op R1 0 []), (3, .op R2 0 []), (4, tb false)] H')
  (hgood : ∀ row at2, Q9 (rdC cl cb) (n + m) (n + m + 1) ((AC inn).drop at_) [] = some (row, (AC inn).drop at2) → row.length = n + m → ∀ H' v' y, Frm id (some W) H H' → ET H' id inn at2 o l most win J → H'[W]? = some (nsO v' row) → Q .nor [(0, .op id 0 []), (2, .op R1 0 []), (3, .op R2 0 []), (5, i64 (n : Int)), (6, i64 (m : Int)), (11, .op C 0 []), (13, .os 1 W v' [] 0 row.length row.length), (82, y)] H') :
  vwp Tryd.prog (.loop [0, 2, 3, 5, 6, 11, 13] Ef) (Blk 2 Q) E H := by
 obtain ⟨hn1, hn2, hn3, hn4, hn5, hn6, hn7, hn8⟩ := hne
 obtain ⟨R, hR0⟩ : ∃ R, R = Q9 (rdC cl cb) (n + m) (n + m + 1) ((AC inn).drop at_) [] := ⟨_, rfl⟩
 rw [← hR0] at hbad hgood
 refine Bi (fun q e H' => ∃ (at1 v' : Nat) (row : List Nat), R = Q9 (rdC cl cb) (n + m) q ((AC inn).drop at1) row ∧ n + m - row.length < q ∧ row.length ≤ n + m ∧ e = [(0, .op id 0 []), (2, .op R1 0 []), (3, .op R2 0 []), (5, i64 (n : Int)), (6, i64 (m : Int)), (11, .op C 0 []), (13, .os 1 W v' [] 0 row.length row.length)] ∧ Frm id (some W) H H' ∧ ET H' id inn at1 o l most win J ∧ H'[W]? = some (nsO v' row)) (n + m + 1) ?_ ?_
 ·exact ⟨at_, v, [], hR0, by simp, by simp, hE, Frm.refl, hst, hW⟩
 ·rintro q e H' ⟨at1, v', row, hR, hq, hrl, rfl, hfr, hs, hW'⟩
  obtain ⟨f, rfl⟩ : ∃ f, q = f + 1 := ⟨q - 1, by omega⟩
  rw [Q9] at hR
  by_cases htot : n + m ≤ row.length
  ·rw [if_pos htot] at hR
   simp -dsimp (disch := first | assumption | omega | (simp only [Ae]; done) | (simp only [Ae]; omega)) only [↓Ag, Ac, Ah, Ai, eq_self, Nat.reduceEqDiff, ↓reduceIte, reduceCtorEq, ↓Ak]
   exact hgood row at1 hR (by omega) H' v' _ hfr hs hW'
  rw [if_neg htot] at hR
  have keep : ∀ {H2 k x}, Frm id (some W) H H2 → H[k]? = some x → k ≠ id → k ≠ W → H2[k]? = some x := fun {H2 k x} hf hk h1 h2 => by
   rw [hf.2 k (List.getElem?_eq_some_iff.1 hk).1 h1 (by simpa using Ne.symm h2)]; exact hk
  have hC' := keep hfr hC hn3 hn7
  simp -dsimp (disch := first | assumption | omega | (simp only [Ae]; done) | (simp only [Ae]; omega)) only [↓Ag, Ac, Ah, Ai, eq_self, Nat.reduceEqDiff, ↓reduceIte, Nat.reduceAdd, reduceCtorEq, ↓Ak, hC']
  refine Ap.mono (AwE hs hi hlen hl3) ?_
  rintro x H2 ⟨hf2, hx⟩
  have hfr2 : Frm id (some W) H H2 := hfr.trans Jn.refl hf2.weak
  have hR1' := keep hfr2 hR1 hn1 hn5
  have hR2' := keep hfr2 hR2 hn2 hn6
  have hR1l := (List.getElem?_eq_some_iff.1 hR1').1
  have hR2l := (List.getElem?_eq_some_iff.1 hR2').1
  have hW2 : H2[W]? = some (nsO v' row) := by rw [hf2.2 W (List.getElem?_eq_some_iff.1 hW').1 hn4 (by simp)]; exact hW'
  split at hx
  case h_2 hnone =>
   rw [hnone] at hR
   obtain ⟨rfl, hb⟩ := hx
   have hb' := hb
   obtain ⟨b1, a2, o2, b2, b3, b4⟩ := hb
   simp -dsimp (disch := first | assumption | omega | (simp only [Ae]; done) | (simp only [Ae]; omega)) only [↓Ag, Ac, Ah, Ai, eq_self, Nat.reduceEqDiff, ↓reduceIte, Nat.reduceAdd, reduceCtorEq, ↓Ak, b4, b3, hR1', hR2', Bv hR1', Bv hR2']
   exact hbad hR H2 hfr2 (.inr hb')
  rename_i y B1 hsome
  obtain ⟨rfl, hyl, n1, hn1', rfl, hs2⟩ := hx
  rw [hsome] at hR
  have ho2 := hs2.ob
  have hw2 := hs2.row.width1
  simp only at hR
  have hst17 : ∀ r : List Nat, Tv 17 r = some (3, 3, 0) := fun r => by simp [Tv]
  have hst18 : ∀ r : List Nat, Tv 18 r = some (7, 11, 0) := fun r => by simp [Tv]
  by_cases hy16 : y = 16
  ·subst hy16
   by_cases hre : row = []
   ·subst hre
    rw [show Tv 16 [] = none by simp [Tv]] at hR
    simp -dsimp (disch := first | assumption | omega | (simp only [Ae]; done) | (simp only [Ae]; omega)) only [↓Ag, Ac, Ah, Ai, eq_self, Nat.reduceEqDiff, ↓reduceIte, Nat.reduceAdd, reduceCtorEq, ↓Ak, ho2, hw2, hR1', hR2', Bv hR1', Bv hR2']
    exact hbad hR H2 hfr2 (.inl ⟨_, hs2⟩)
   have hrow0 : 0 < row.length := List.length_pos_iff.2 hre
   obtain ⟨lw, hlw⟩ : ∃ lw, row[row.length - 1]? = some lw := ⟨_, List.getElem?_eq_getElem (by omega)⟩
   rw [show Tv 16 row = some (2, 3, lw) by simp [Tv, List.getLast?_eq_getElem?, hlw]] at hR
   simp only at hR
   simp -dsimp (disch := first | assumption | omega | (simp only [Ae]; done) | (simp only [Ae]; omega)) only [↓Ag, Ac, Ah, Ai, eq_self, Nat.reduceEqDiff, ↓reduceIte, Nat.reduceAdd, reduceCtorEq, ↓Ak, ho2, hw2, hW2, hlw]
   refine Ap.mono (AaN (n := 2) hs2.x (by omega) hi) ?_
   rintro x H3 ⟨g1, g2, g3, hx⟩
   rw [Bool.true_and] at g3 hx
   obtain ⟨tv, htv⟩ : ∃ tv : Nat, tv = (if decide (2 ≤ ((AC inn).drop (at1 + n1)).length) = true then C9 (((AC inn).drop (at1 + n1)).take 2) else 0) := ⟨_, rfl⟩
   rw [← htv] at hx
   subst hx
   have htvl : tv ≤ 128 := by
    have := DN 2 ((AC inn).drop (at1 + n1))
    rw [htv]; split <;> omega
   have hR1'' : H3[R1]? = some Du := by rw [g1.2 R1 hR1l hn1 (by simp)]; exact hR1'
   have hR2'' : H3[R2]? = some Du := by rw [g1.2 R2 hR2l hn2 (by simp)]; exact hR2'
   have hW3 : H3[W]? = some (nsO v' row) := by rw [g1.2 W (List.getElem?_eq_some_iff.1 hW2).1 hn4 (by simp)]; exact hW2
   have hRn : (decide (2 ≤ ((AC inn).drop (at1 + n1)).length) = false ∨ n + m < row.length + (3 + tv)) → R = none := by
    intro hb
    rw [hR]
    by_cases hok : 2 ≤ ((AC inn).drop (at1 + n1)).length
    ·rw [decide_eq_true hok, if_pos rfl] at htv
     rcases hb with hb | hb
     ·exact absurd hok (by simpa using hb)
     ·rw [if_neg (by omega), if_pos (by rw [← htv]; exact hb)]
    ·rw [if_pos (by omega)]
   have hRs : decide (2 ≤ ((AC inn).drop (at1 + n1)).length) = true → row.length + (3 + tv) ≤ n + m → R = Q9 (rdC cl cb) (n + m) f ((AC inn).drop (at1 + n1 + 2)) (row ++ List.replicate (3 + tv) lw) := by
    intro hok hle
    rw [hok, if_pos rfl] at htv
    have hok' := of_decide_eq_true hok
    rw [hR, if_neg (by omega), ← htv, if_neg (by omega), List.drop_drop]
   simp -dsimp (disch := first | assumption | omega | (simp only [Ae]; done) | (simp only [Ae]; omega)) only [↓Ag, Ac, Ah, Ai, eq_self, Nat.reduceEqDiff, ↓reduceIte, reduceCtorEq]
   refine AB7 (n := n) (m := m) (C := C) (what := lw) (times := 3 + tv) g3 hR1'' hR2'' hW3 (by omega) (by omega) (by omega) ?_ ?_
   ·intro hb
    refine hbad (hRn hb) H3 (hfr2.trans Jn.refl g1.weak) ?_
    rcases hb with hb | hb
    ·rw [hb] at g3; exact .inr g3.bad
    ·by_cases hok : 2 ≤ ((AC inn).drop (at1 + n1)).length
     ·rw [decide_eq_true hok] at g3; exact .inl ⟨_, g3.ok⟩
     ·rw [decide_eq_false hok] at g3; exact .inr g3.bad
   ·intro hok hle H4 v4 y4 k1 k2
    have hfr4 : Frm id (some W) H H4 := ⟨Nat.le_trans hfr2.1 (Nat.le_trans g1.1 k1.1), fun i hi h1 h2 => by
     have hiW : i ≠ W := fun e => h2 (by rw [e])
     rw [k1.2 i (by have := hfr2.1; omega) hiW (by simp), g1.2 i (by have := hfr2.1; omega) h1 (by simp)]
     exact hfr2.2 i hi h1 h2⟩
    rw [hok] at g3
    have hs4 := (g3.keep (H' := H4) fun i hi => k1.2 i (by rcases hi with rfl | hi; exact g3.lt; exact g3.jlt hi) (by rcases hi with rfl | hi; exact Ne.symm hn4; exact fun e => hn8 (by rw [hi, e])) (by simp)).ok
    simp -dsimp (disch := first | assumption | omega | (simp only [Ae]; done) | (simp only [Ae]; omega)) only [↓Ag]
    refine Am f (by omega) (by have := hfr4.1; have := hfr.1; have := k1.1; have := g1.1; have := hf2.1; omega) ⟨_, v4, row ++ List.replicate (3 + tv) lw, hRs hok hle, by simp; omega, by simp; omega, by rw [List.length_append, List.length_replicate]; rfl, hfr4, hs4, k2⟩
  by_cases hy17 : y = 17
  ·subst hy17
   rw [hst17] at hR
   simp only at hR
   simp -dsimp (disch := first | assumption | omega | (simp only [Ae]; done) | (simp only [Ae]; omega)) only [↓Ag, Ac, Ah, Ai, eq_self, Nat.reduceEqDiff, ↓reduceIte, Nat.reduceAdd, reduceCtorEq, ↓Ak, ho2, hw2]
   refine Ap.mono (AaN (n := 3) hs2.x (by omega) hi) ?_
   rintro x H3 ⟨g1, g2, g3, hx⟩
   rw [Bool.true_and] at g3 hx
   obtain ⟨tv, htv⟩ : ∃ tv : Nat, tv = (if decide (3 ≤ ((AC inn).drop (at1 + n1)).length) = true then C9 (((AC inn).drop (at1 + n1)).take 3) else 0) := ⟨_, rfl⟩
   rw [← htv] at hx
   subst hx
   have htvl : tv ≤ 128 := by
    have := DN 3 ((AC inn).drop (at1 + n1))
    rw [htv]; split <;> omega
   have hR1'' : H3[R1]? = some Du := by rw [g1.2 R1 hR1l hn1 (by simp)]; exact hR1'
   have hR2'' : H3[R2]? = some Du := by rw [g1.2 R2 hR2l hn2 (by simp)]; exact hR2'
   have hW3 : H3[W]? = some (nsO v' row) := by rw [g1.2 W (List.getElem?_eq_some_iff.1 hW2).1 hn4 (by simp)]; exact hW2
   have hRn : (decide (3 ≤ ((AC inn).drop (at1 + n1)).length) = false ∨ n + m < row.length + (3 + tv)) → R = none := by
    intro hb
    rw [hR]
    by_cases hok : 3 ≤ ((AC inn).drop (at1 + n1)).length
    ·rw [decide_eq_true hok, if_pos rfl] at htv
     rcases hb with hb | hb
     ·exact absurd hok (by simpa using hb)
     ·rw [if_neg (by omega), if_pos (by rw [← htv]; exact hb)]
    ·rw [if_pos (by omega)]
   have hRs : decide (3 ≤ ((AC inn).drop (at1 + n1)).length) = true → row.length + (3 + tv) ≤ n + m → R = Q9 (rdC cl cb) (n + m) f ((AC inn).drop (at1 + n1 + 3)) (row ++ List.replicate (3 + tv) 0) := by
    intro hok hle
    rw [hok, if_pos rfl] at htv
    have hok' := of_decide_eq_true hok
    rw [hR, if_neg (by omega), ← htv, if_neg (by omega), List.drop_drop]
   simp -dsimp (disch := first | assumption | omega | (simp only [Ae]; done) | (simp only [Ae]; omega)) only [↓Ag, Ac, Ah, Ai, eq_self, Nat.reduceEqDiff, ↓reduceIte, reduceCtorEq]
   refine AB7 (n := n) (m := m) (C := C) (what := 0) (times := 3 + tv) g3 hR1'' hR2'' hW3 (by omega) (by omega) (by omega) ?_ ?_
   ·intro hb
    refine hbad (hRn hb) H3 (hfr2.trans Jn.refl g1.weak) ?_
    rcases hb with hb | hb
    ·rw [hb] at g3; exact .inr g3.bad
    ·by_cases hok : 3 ≤ ((AC inn).drop (at1 + n1)).length
     ·rw [decide_eq_true hok] at g3; exact .inl ⟨_, g3.ok⟩
     ·rw [decide_eq_false hok] at g3; exact .inr g3.bad
   ·intro hok hle H4 v4 y4 k1 k2
    have hfr4 : Frm id (some W) H H4 := ⟨Nat.le_trans hfr2.1 (Nat.le_trans g1.1 k1.1), fun i hi h1 h2 => by
     have hiW : i ≠ W := fun e => h2 (by rw [e])
     rw [k1.2 i (by have := hfr2.1; omega) hiW (by simp), g1.2 i (by have := hfr2.1; omega) h1 (by simp)]
     exact hfr2.2 i hi h1 h2⟩
    rw [hok] at g3
    have hs4 := (g3.keep (H' := H4) fun i hi => k1.2 i (by rcases hi with rfl | hi; exact g3.lt; exact g3.jlt hi) (by rcases hi with rfl | hi; exact Ne.symm hn4; exact fun e => hn8 (by rw [hi, e])) (by simp)).ok
    simp -dsimp (disch := first | assumption | omega | (simp only [Ae]; done) | (simp only [Ae]; omega)) only [↓Ag]
    refine Am f (by omega) (by have := hfr4.1; have := hfr.1; have := k1.1; have := g1.1; have := hf2.1; omega) ⟨_, v4, row ++ List.replicate (3 + tv) 0, hRs hok hle, by simp; omega, by simp; omega, by rw [List.length_append, List.length_replicate]; rfl, hfr4, hs4, k2⟩
  by_cases hy18 : y = 18
  ·subst hy18
   rw [hst18] at hR
   simp only at hR
   simp -dsimp (disch := first | assumption | omega | (simp only [Ae]; done) | (simp only [Ae]; omega)) only [↓Ag, Ac, Ah, Ai, eq_self, Nat.reduceEqDiff, ↓reduceIte, Nat.reduceAdd, reduceCtorEq, ↓Ak, ho2, hw2]
   refine Ap.mono (AaN (n := 7) hs2.x (by omega) hi) ?_
   rintro x H3 ⟨g1, g2, g3, hx⟩
   rw [Bool.true_and] at g3 hx
   obtain ⟨tv, htv⟩ : ∃ tv : Nat, tv = (if decide (7 ≤ ((AC inn).drop (at1 + n1)).length) = true then C9 (((AC inn).drop (at1 + n1)).take 7) else 0) := ⟨_, rfl⟩
   rw [← htv] at hx
   subst hx
   have htvl : tv ≤ 128 := by
    have := DN 7 ((AC inn).drop (at1 + n1))
    rw [htv]; split <;> omega
   have hR1'' : H3[R1]? = some Du := by rw [g1.2 R1 hR1l hn1 (by simp)]; exact hR1'
   have hR2'' : H3[R2]? = some Du := by rw [g1.2 R2 hR2l hn2 (by simp)]; exact hR2'
   have hW3 : H3[W]? = some (nsO v' row) := by rw [g1.2 W (List.getElem?_eq_some_iff.1 hW2).1 hn4 (by simp)]; exact hW2
   have hRn : (decide (7 ≤ ((AC inn).drop (at1 + n1)).length) = false ∨ n + m < row.length + (11 + tv)) → R = none := by
    intro hb
    rw [hR]
    by_cases hok : 7 ≤ ((AC inn).drop (at1 + n1)).length
    ·rw [decide_eq_true hok, if_pos rfl] at htv
     rcases hb with hb | hb
     ·exact absurd hok (by simpa using hb)
     ·rw [if_neg (by omega), if_pos (by rw [← htv]; exact hb)]
    ·rw [if_pos (by omega)]
   have hRs : decide (7 ≤ ((AC inn).drop (at1 + n1)).length) = true → row.length + (11 + tv) ≤ n + m → R = Q9 (rdC cl cb) (n + m) f ((AC inn).drop (at1 + n1 + 7)) (row ++ List.replicate (11 + tv) 0) := by
    intro hok hle
    rw [hok, if_pos rfl] at htv
    have hok' := of_decide_eq_true hok
    rw [hR, if_neg (by omega), ← htv, if_neg (by omega), List.drop_drop]
   simp -dsimp (disch := first | assumption | omega | (simp only [Ae]; done) | (simp only [Ae]; omega)) only [↓Ag, Ac, Ah, Ai, eq_self, Nat.reduceEqDiff, ↓reduceIte, reduceCtorEq]
   refine AB7 (n := n) (m := m) (C := C) (what := 0) (times := 11 + tv) g3 hR1'' hR2'' hW3 (by omega) (by omega) (by omega) ?_ ?_
   ·intro hb
    refine hbad (hRn hb) H3 (hfr2.trans Jn.refl g1.weak) ?_
    rcases hb with hb | hb
    ·rw [hb] at g3; exact .inr g3.bad
    ·by_cases hok : 7 ≤ ((AC inn).drop (at1 + n1)).length
     ·rw [decide_eq_true hok] at g3; exact .inl ⟨_, g3.ok⟩
     ·rw [decide_eq_false hok] at g3; exact .inr g3.bad
   ·intro hok hle H4 v4 y4 k1 k2
    have hfr4 : Frm id (some W) H H4 := ⟨Nat.le_trans hfr2.1 (Nat.le_trans g1.1 k1.1), fun i hi h1 h2 => by
     have hiW : i ≠ W := fun e => h2 (by rw [e])
     rw [k1.2 i (by have := hfr2.1; omega) hiW (by simp), g1.2 i (by have := hfr2.1; omega) h1 (by simp)]
     exact hfr2.2 i hi h1 h2⟩
    rw [hok] at g3
    have hs4 := (g3.keep (H' := H4) fun i hi => k1.2 i (by rcases hi with rfl | hi; exact g3.lt; exact g3.jlt hi) (by rcases hi with rfl | hi; exact Ne.symm hn4; exact fun e => hn8 (by rw [hi, e])) (by simp)).ok
    simp -dsimp (disch := first | assumption | omega | (simp only [Ae]; done) | (simp only [Ae]; omega)) only [↓Ag]
    refine Am f (by omega) (by have := hfr4.1; have := hfr.1; have := k1.1; have := g1.1; have := hf2.1; omega) ⟨_, v4, row ++ List.replicate (11 + tv) 0, hRs hok hle, by simp; omega, by simp; omega, by rw [List.length_append, List.length_replicate]; rfl, hfr4, hs4, k2⟩
  rw [show Tv y row = some (0, 1, y) by simp [Tv, hy16, hy17, hy18]] at hR
  simp only [List.take_zero, C9, Nat.add_zero, Nat.not_lt_zero, if_false, List.drop_zero] at hR
  simp -dsimp (disch := first | assumption | omega | (simp only [Ae]; done) | (simp only [Ae]; omega)) only [↓Ag, Ac, Ah, Ai, eq_self, Nat.reduceEqDiff, ↓reduceIte, Nat.reduceAdd, reduceCtorEq, ↓IJ, ↓Iq, ↓Ir, ↓JZ, ↓JE, ↓Jl, ↓JU, ↓Jm, ↓JO, ho2, hw2]
  refine AB7 (n := n) (m := m) (C := C) (what := y) (times := 1) hs2.x hR1' hR2' hW2 (by omega) (by omega) (by omega) ?_ ?_
  ·intro hb
   refine hbad ?_ H2 hfr2 (.inl ⟨_, hs2⟩)
   rw [hR, if_pos (by rcases hb with hb | hb; cases hb; exact hb)]
  ·intro _ hle H4 v4 y4 k1 k2
   have hfr4 : Frm id (some W) H H4 := ⟨Nat.le_trans hfr2.1 k1.1, fun i hi h1 h2 => by
    have hiW : i ≠ W := fun e => h2 (by rw [e])
    rw [k1.2 i (by have := hfr2.1; omega) hiW (by simp)]
    exact hfr2.2 i hi h1 h2⟩
   have hs4 := (hs2.x.keep (H' := H4) fun i hi => k1.2 i (by rcases hi with rfl | hi; exact hs2.lt; exact hs2.x.jlt hi) (by rcases hi with rfl | hi; exact Ne.symm hn4; exact fun e => hn8 (by rw [hi, e])) (by simp)).ok
   rw [if_neg (by omega)] at hR
   simp -dsimp (disch := first | assumption | omega | (simp only [Ae]; done) | (simp only [Ae]; omega)) only [↓Ag]
   refine Am f (by omega) (by have := hfr4.1; have := hfr.1; have := k1.1; have := hf2.1; omega) ⟨_, v4, row ++ List.replicate 1 y, hR, by simp; omega, by simp; omega, by rw [List.length_append, List.length_replicate]; rfl, hfr4, hs4, k2⟩
end Go.Proofs.YtfgljddikcghhaaDoor


namespace Go.Proofs.YtfgljddikcghhaaDoor
open Go.RowKit
variable [AO]
set_option linter.unusedSectionVars false
set_option linter.unusedVariables false
set_option linter.unusedSimpArgs false

def Anv (x : TV) : Prop := x = .agg [AiR, AiR] ∨ ∃ ls bs, x = .agg [Cc ls, Cc bs]
abbrev Ahe (ls : List Nat) : TV := .agg [Cc ls, Cc (CSt.all ls 15).bs]
/-- What told leaves behind. -/
def Aot (id : Nat) (inn : List UInt8) (o : TV) (l : List UInt8) (most win : Int) (J : Option Nat) (R : Option (List Nat × List Nat × List Bool)) (x : TV) (H' : List Ob) : Prop :=
 ∃ c d ok, x = .tup [c, d, tb ok] ∧ Anv c ∧ Anv d ∧
  ((ok = true ∧ ∃ a b at2, R = some (a, b, (AC inn).drop at2) ∧ ET H' id inn at2 o l most win J ∧ okC a true false = true ∧ okC b true true = true ∧ c = Ahe a ∧ d = Ahe b ∧ a.length ≤ 1000 ∧ b.length ≤ 1000) ∨
  (ok = false ∧ ((∃ at2, ET H' id inn at2 o l most win J) ∨ WF H' id inn most win 10) ∧ ∀ a b B, R = some (a, b, B) → (okC a true false && okC b true true) = false))
set_option maxHeartbeats 1000000 in
theorem AAz {id at_ : Nat} {inn l : List UInt8} {o : TV} {most win : Int} {J : Option Nat} {H : List Ob} (hst : ET H id inn at_ o l most win J) (hi : inn.length ≤ 1000000) :
  Ap Tryd.prog 39 [.op id 0 []] H (fun x H' => Frm id none H H' ∧ Aot id inn o l most win J (Aee okC rdR ((AC inn).drop at_)) x H') := by
 have hid := hst.lt
 obtain ⟨R, hR⟩ : ∃ R, R = Aee okC rdR ((AC inn).drop at_) := ⟨_, rfl⟩
 rw [← hR]
 unfold Aee at hR
 have hlen : ((AC inn).drop at_).length = 8 * inn.length - at_ := by rw [List.length_drop, Bj]
 refine Adz (by simp) ?_
 simp -dsimp (disch := first | assumption | omega | (simp only [Ae]; done) | (simp only [Ae]; omega)) only [↓Ag, Ac, Ah, Ai, eq_self, Nat.reduceEqDiff, ↓reduceIte, reduceCtorEq, ↓Ak]
 obtain ⟨H1, hH1⟩ : ∃ H1 : List Ob, H1 = H ++ [Du] ++ [Du] := ⟨_, rfl⟩
 rw [← hH1]
 have hH1l : H1.length = H.length + 2 := by rw [hH1]; simp
 have hF1 : Frm id none H H1 := ⟨by omega, fun i hi _ _ => by rw [hH1, List.append_assoc, List.getElem?_append_left hi]⟩
 have hR1 : H1[H.length]? = some Du := by rw [hH1, List.append_assoc, List.getElem?_append_right (Nat.le_refl _)]; simp
 have hR2 : H1[H.length + 1]? = some Du := by rw [hH1, List.append_assoc, List.getElem?_append_right (by omega)]; simp
 have hs1 : Afp H1 id inn at_ o l most win J true := by rw [hH1]; exact hst.x.app.app
 have hw := hst.row.width1
 refine Ap.mono (AaN (n := 5) hs1 (by omega) hi) ?_
 rintro x H2 ⟨f2, l2, s2, hx⟩
 rw [Bool.true_and] at hx s2
 obtain ⟨v1, hv1⟩ : ∃ v : Nat, v = (if decide (5 ≤ ((AC inn).drop at_).length) = true then C9 (((AC inn).drop at_).take 5) else 0) := ⟨_, rfl⟩
 rw [← hv1] at hx
 subst hx
 have hv1l : v1 < 32 := by have := DN 5 ((AC inn).drop at_); rw [hv1]; split <;> omega
 simp -dsimp (disch := first | assumption | omega | (simp only [Ae]; done) | (simp only [Ae]; omega)) only [↓Ag, Ac, Ah, Ai, eq_self, Nat.reduceEqDiff, ↓reduceIte, reduceCtorEq, ↓Ak]
 refine Ap.mono (AaN (n := 5) s2 (by omega) hi) ?_
 rintro x H3 ⟨f3, l3, s3, hx⟩
 obtain ⟨v2, hv2⟩ : ∃ v : Nat, v = (if (decide (5 ≤ ((AC inn).drop at_).length) && decide (5 ≤ ((AC inn).drop (at_ + 5)).length)) = true then C9 (((AC inn).drop (at_ + 5)).take 5) else 0) := ⟨_, rfl⟩
 rw [← hv2] at hx
 subst hx
 have hv2l : v2 < 32 := by have := DN 5 ((AC inn).drop (at_ + 5)); rw [hv2]; split <;> omega
 simp -dsimp (disch := first | assumption | omega | (simp only [Ae]; done) | (simp only [Ae]; omega)) only [↓Ag, Ac, Ah, Ai, eq_self, Nat.reduceEqDiff, ↓reduceIte, reduceCtorEq, ↓Ak]
 refine Ap.mono (AaN (n := 4) s3 (by omega) hi) ?_
 rintro x H4 ⟨f4, l4, s4, hx⟩
 obtain ⟨v3, hv3⟩ : ∃ v : Nat, v = (if (decide (5 ≤ ((AC inn).drop at_).length) && decide (5 ≤ ((AC inn).drop (at_ + 5)).length) && decide (4 ≤ ((AC inn).drop (at_ + 5 + 5)).length)) = true then C9 (((AC inn).drop (at_ + 5 + 5)).take 4) else 0) := ⟨_, rfl⟩
 rw [← hv3] at hx
 subst hx
 have hv3l : v3 < 16 := by have := DN 4 ((AC inn).drop (at_ + 5 + 5)); rw [hv3]; split <;> omega
 have hok : (decide (5 ≤ ((AC inn).drop at_).length) && decide (5 ≤ ((AC inn).drop (at_ + 5)).length) && decide (4 ≤ ((AC inn).drop (at_ + 5 + 5)).length)) = decide (14 ≤ ((AC inn).drop at_).length) := by
  rw [← Bool.decide_and, ← Bool.decide_and]
  congr 1
  simp only [List.length_drop]
  apply propext; omega
 rw [hok] at s4 hv3
 have hF4 : Frm id none H1 H4 := (f2.trans Jn.refl f3).trans Jn.refl f4
 have hR1' : H4[H.length]? = some Du := by rw [hF4.2 _ (by omega) (by omega) (by simp)]; exact hR1
 have hR2' : H4[H.length + 1]? = some Du := by rw [hF4.2 _ (by omega) (by omega) (by simp)]; exact hR2
 have fin4 : ∀ {H'}, Frm id none H4 H' → Frm id none H H' := fun h => (hF1.trans Jn.refl hF4).trans Jn.refl h
 have hR1l : H.length < H4.length := by omega
 have hR2l : H.length + 1 < H4.length := by omega
 by_cases h14 : 14 ≤ ((AC inn).drop at_).length
 case neg =>
  rw [decide_eq_false h14] at s4
  have ho4 := s4.ob
  simp only [Bool.false_eq_true, if_false] at ho4
  rw [if_pos (by omega)] at hR
  simp -dsimp (disch := first | assumption | omega | (simp only [Ae]; done) | (simp only [Ae]; omega)) only [↓Ag, Ac, Ah, Ai, eq_self, Nat.reduceEqDiff, ↓reduceIte, Nat.reduceAdd, reduceCtorEq, ↓Ak, ho4, hw, hR1', hR2', Bv hR1', Bv hR2']
  exact ⟨fin4 Frm.refl, _, _, false, rfl, .inl rfl, .inl rfl, .inr ⟨rfl, .inr s4.bad, fun a b B h => by rw [hR] at h; cases h⟩⟩
 rw [decide_eq_true h14] at s4 hv3
 rw [if_pos rfl] at hv3
 rw [decide_eq_true (by omega : 5 ≤ ((AC inn).drop at_).length), if_pos rfl] at hv1
 rw [decide_eq_true (by omega : 5 ≤ ((AC inn).drop at_).length), decide_eq_true (by rw [List.length_drop] at h14 ⊢; omega : 5 ≤ ((AC inn).drop (at_ + 5)).length), Bool.and_true, if_pos rfl] at hv2
 have ho4 := s4.ob
 simp only [if_true] at ho4
 rw [if_neg (by omega)] at hR
 simp only [List.drop_drop] at hR
 rw [show at_ + 5 + 5 = at_ + 10 by omega] at hv3
 rw [← hv1, ← hv2, ← hv3] at hR
 by_cases hlim : 286 < v1 + 257 ∨ 30 < v2 + 1
 ·rw [if_pos hlim] at hR
  have post : Frm id none H H4 ∧ Aot id inn o l most win J R (.tup [.agg [AiR, AiR], .agg [AiR, AiR], tb false]) H4 := ⟨fin4 Frm.refl, _, _, false, rfl, .inl rfl, .inl rfl, .inr ⟨rfl, .inl ⟨_, s4.ok⟩, fun a b B h => by rw [hR] at h; cases h⟩⟩
  by_cases hl2 : 286 < v1 + 257
  ·simp -dsimp (disch := first | assumption | omega | (simp only [Ae]; done) | (simp only [Ae]; omega)) only [↓Ag, Ac, Ah, Ai, eq_self, Nat.reduceEqDiff, ↓reduceIte, Nat.reduceAdd, reduceCtorEq, ↓Ak, ho4, hw, hR1', hR2', Bv hR1', Bv hR2']
   exact post
  ·simp -dsimp (disch := first | assumption | omega | (simp only [Ae]; done) | (simp only [Ae]; omega)) only [↓Ag, Ac, Ah, Ai, eq_self, Nat.reduceEqDiff, ↓reduceIte, Nat.reduceAdd, reduceCtorEq, ↓Ak, ho4, hw, hR1', hR2', Bv hR1', Bv hR2']
   exact post
 rw [if_neg hlim] at hR
 have hlim1 : v1 + 257 ≤ 286 := by omega
 have hlim2 : v2 + 1 ≤ 30 := by omega
 simp -dsimp (disch := first | assumption | omega | (simp only [Ae]; done) | (simp only [Ae]; omega)) only [↓Ag, Ac, Ah, Ai, eq_self, Nat.reduceEqDiff, Nat.reduceMul, ↓reduceIte, Nat.reduceAdd, reduceCtorEq, Nat.reduceLeDiff, ↓Ak, ho4, hw]
 have hJ4 : ∀ j, J = some j → j < H4.length := fun j hj => s4.jlt hj
 refine ABa (R1 := H.length) (R2 := H.length + 1) (O := H4.length) (T := H4.length + 1) (n := v1 + 257) (m := v2 + 1) (k := v3 + 4) (at_ := at_ + 14) (Afp.ok (by rw [show at_ + 14 = at_ + 5 + 5 + 4 by omega]; exact s4.app.app)) hi (by omega) ?_ ?_ ⟨by omega, by omega, by omega, fun e => by have := hJ4 _ e; omega⟩ ?_
 ·rw [List.append_assoc, List.getElem?_append_right (Nat.le_refl _), Nat.sub_self]; rfl
 ·rw [List.append_assoc, List.getElem?_append_right (by omega), Nat.add_sub_cancel_left]; rfl
 intro H5 L y hf5 hL hT5 hLe hs5
 have hF5 : Frm id none H4 H5 := ⟨by have := hf5.1; simp at this; omega, fun i hi h1 _ => by
  rw [hf5.2 i (by simp; omega) h1 (by simp; omega), List.append_assoc, List.getElem?_append_left hi]⟩
 have hl5 : H4.length + 2 ≤ H5.length := by have := hf5.1; simp at this; omega
 have hlen14 : ((AC inn).drop (at_ + 14)).length = ((AC inn).drop at_).length - 14 := by simp only [List.length_drop]; omega
 simp -dsimp (disch := first | assumption | omega | (simp only [Ae]; done) | (simp only [Ae]; omega)) only [↓Ag, ↓Il]
 refine AmH (by rfl) hT5 (by simp [hL]) ?_
 have htk : List.take 19 (List.drop 0 (L.map fun (n : Nat) => i64 (n : Int))) = L.map fun (n : Nat) => i64 (n : Int) := by rw [List.drop_zero, List.take_of_length_le (by simp [hL])]
 rw [htk]
 simp -dsimp (disch := first | assumption | omega | (simp only [Ae]; done) | (simp only [Ae]; omega)) only [↓Ag, Ac, Ah, Ai, eq_self, ↓reduceIte]
 refine (Al2 L false false (by omega)).calls rfl ?_
 rintro _ rfl
 obtain ⟨H6, hH6⟩ : ∃ H6 : List Ob, H6 = H5.set (H4.length + 1) (Ob.gone 0) ++ [Ob.obj 0 (.agg [Cc L, Cc (CSt.all L 15).bs])] := ⟨_, rfl⟩
 have hl6 : H6.length = H5.length + 1 := by rw [hH6]; simp
 have s6 : Afp H6 id inn (at_ + 14 + 3 * (v3 + 4)) o l most win J (decide (3 * (v3 + 4) ≤ ((AC inn).drop (at_ + 14)).length)) := by
  rw [hH6]
  exact (hs5.set (by omega) (fun e => by have := hJ4 _ e; omega)).app
 have hF6 : Frm id none H4 H6 := ⟨by omega, fun i hi h1 h2 => by
  rw [hH6, List.getElem?_append_left (by simp; omega), List.getElem?_set_ne (by omega)]
  exact hF5.2 i hi h1 h2⟩
 have hR16 : H6[H.length]? = some Du := by rw [hF6.2 _ (by omega) (by omega) (by simp)]; exact hR1'
 have hR26 : H6[H.length + 1]? = some Du := by rw [hF6.2 _ (by omega) (by omega) (by simp)]; exact hR2'
 have hR16l := (List.getElem?_eq_some_iff.1 hR16).1
 have hR26l := (List.getElem?_eq_some_iff.1 hR26).1
 have hC6 : H6[H5.length]? = some (Ob.obj 0 (.agg [Cc L, Cc (CSt.all L 15).bs])) := by rw [hH6, List.getElem?_append_right (by simp)]; simp
 have ho6 := s6.ob
 simp -dsimp (disch := first | assumption | omega | (simp only [Ae]; done) | (simp only [Ae]; omega)) only [↓Ag, Ac, Ah, Ai, eq_self, Nat.reduceEqDiff, ↓reduceIte, Nat.reduceAdd, reduceCtorEq, ↓Ak, ← hH6]
 by_cases hen : 14 + 3 * (v3 + 4) ≤ ((AC inn).drop at_).length
 case neg =>
  rw [if_pos (by omega)] at hR
  rw [decide_eq_false (by omega)] at s6 ho6
  simp only [Bool.false_eq_true, if_false] at ho6
  simp -dsimp (disch := first | assumption | omega | (simp only [Ae]; done) | (simp only [Ae]; omega)) only [↓Ag, Ac, Ah, Ai, eq_self, Nat.reduceEqDiff, ↓reduceIte, Nat.reduceAdd, reduceCtorEq, ↓Ak, ho6, hw, hR16, hR26, Bv hR16, Bv hR26]
  exact ⟨fin4 hF6, _, _, false, rfl, .inl rfl, .inl rfl, .inr ⟨rfl, .inr s6.bad, fun a b B h => by rw [hR] at h; cases h⟩⟩
 rw [if_neg (by omega)] at hR
 rw [decide_eq_true (by omega)] at s6 ho6
 simp only [if_true] at ho6
 rw [← hLe (by omega)] at hR
 cases hokL : okC L false false with
 | false =>
  rw [if_pos hokL] at hR
  simp -dsimp (disch := first | assumption | omega | (simp only [Ae]; done) | (simp only [Ae]; omega)) only [↓Ag, Ac, Ah, Ai, eq_self, Nat.reduceEqDiff, ↓reduceIte, Nat.reduceAdd, reduceCtorEq, ↓Ak, ho6, hw, hR16, hR26, Bv hR16, Bv hR26]
  exact ⟨fin4 hF6, _, _, false, rfl, .inl rfl, .inl rfl, .inr ⟨rfl, .inl ⟨_, s6.ok⟩, fun a b B h => by rw [hR] at h; cases h⟩⟩
 | true =>
 rw [if_neg (by rw [hokL]; simp)] at hR
 simp -dsimp (disch := first | assumption | omega | (simp only [Ae]; done) | (simp only [Ae]; omega)) only [↓Ag, Ac, Ah, Ai, eq_self, Nat.reduceEqDiff, ↓reduceIte, Nat.reduceAdd, reduceCtorEq, ↓Ak, ho6, hw]
 have hJ6 : ∀ j, J = some j → j < H6.length := fun j hj => s6.jlt hj
 have hgl : ∀ {i}, i < H6.length → (H6 ++ [Ob.obj 0 (TV.arr 0 1 [])])[i]? = H6[i]? := fun h => List.getElem?_append_left h
 have hF7 : Frm id none H6 (H6 ++ [Ob.obj 0 (TV.arr 0 1 [])]) := ⟨by simp, fun i hi _ _ => hgl hi⟩
 have hdd14 : (AC inn).drop (at_ + (14 + 3 * (v3 + 4))) = (AC inn).drop (at_ + 14 + 3 * (v3 + 4)) := by rw [Nat.add_assoc]
 rw [hdd14] at hR
 have finW : ∀ {H'}, Frm id (some H6.length) (H6 ++ [Ob.obj 0 (TV.arr 0 1 [])]) H' → Frm id none H H' := fun {H'} h => by
  have h67 : Frm id none H6 H' := ⟨by have := h.1; simp at this; omega, fun i hi h1 h2 => by rw [h.2 i (by simp; omega) h1 (by simp; omega)]; exact hgl hi⟩
  exact fin4 (hF6.trans Jn.refl h67)
 refine ADV (C := H5.length) (W := H6.length) (cl := L) (cb := (CSt.all L 15).bs) (v := 0) (at_ := at_ + 14 + 3 * (v3 + 4)) (by rfl) s6.app.ok hi (by rw [CSt.all_len]) (by omega) (by omega) (by rw [hgl hR16l]; exact hR16) (by rw [hgl hR26l]; exact hR26) (by rw [hgl (by omega)]; exact hC6) (by rw [List.getElem?_append_right (Nat.le_refl _)]; simp) ⟨by omega, by omega, by omega, by omega, by omega, by omega, by omega, fun e => by have := hJ6 _ e; omega⟩ ?_ ?_
 ·intro hno H7 hf7 hst7
  have hno' : Q9 (rdR L) (v1 + 257 + (v2 + 1)) (v1 + 257 + (v2 + 1) + 1) ((AC inn).drop (at_ + 14 + 3 * (v3 + 4))) [] = none := hno
  rw [hno'] at hR
  have k1 : H7[H.length]? = some Du := by rw [hf7.2 _ (by simp; omega) (by omega) (by simp; omega), hgl hR16l]; exact hR16
  have k2 : H7[H.length + 1]? = some Du := by rw [hf7.2 _ (by simp; omega) (by omega) (by simp; omega), hgl hR26l]; exact hR26
  simp -dsimp (disch := first | assumption | omega | (simp only [Ae]; done) | (simp only [Ae]; omega)) only [↓Ag, Ac, Ah, Ai, eq_self, Nat.reduceEqDiff, ↓reduceIte, Nat.reduceAdd, ↓Ak, k1, k2]
  exact ⟨finW hf7, _, _, false, rfl, .inl rfl, .inl rfl, .inr ⟨rfl, hst7, fun a b B h => by rw [hR] at h; cases h⟩⟩
 ·intro row at2 hro hrl H7 v7 y7 hf7 hs7 hW7
  have hro' : Q9 (rdR L) (v1 + 257 + (v2 + 1)) (v1 + 257 + (v2 + 1) + 1) ((AC inn).drop (at_ + 14 + 3 * (v3 + 4))) [] = some (row, (AC inn).drop at2) := hro
  rw [hro'] at hR
  simp only at hR
  have k1 : H7[H.length]? = some Du := by rw [hf7.2 _ (by simp; omega) (by omega) (by simp; omega), hgl hR16l]; exact hR16
  have k2 : H7[H.length + 1]? = some Du := by rw [hf7.2 _ (by simp; omega) (by omega) (by simp; omega), hgl hR26l]; exact hR26
  simp -dsimp (disch := first | assumption | omega | (simp only [Ae]; done) | (simp only [Ae]; omega)) only [↓Ag, ↓Ic]
  refine AmH (by rfl) hW7 (by simp) ?_
  have htk2 : List.take row.length (List.drop 0 (row.map fun (n : Nat) => i64 (n : Int))) = row.map fun (n : Nat) => i64 (n : Int) := by rw [List.drop_zero, List.take_of_length_le (by simp)]
  rw [htk2]
  obtain ⟨H8, hH8⟩ : ∃ H8, H8 = H7.set H6.length (Ob.gone v7) := ⟨_, rfl⟩
  rw [← hH8]
  have hl7 : H6.length + 1 ≤ H7.length := by have := hf7.1; simpa using this
  have hl8 : H8.length = H7.length := by rw [hH8]; simp
  have k18 : H8[H.length]? = some Du := by rw [hH8, List.getElem?_set_ne (by omega)]; exact k1
  have k28 : H8[H.length + 1]? = some Du := by rw [hH8, List.getElem?_set_ne (by omega)]; exact k2
  have s8 : Afp H8 id inn at2 o l most win J true := by rw [hH8]; exact hs7.x.set (by omega) (fun e => by have := hJ6 _ e; omega)
  have hF8 : Frm id none H6 H8 := ⟨by omega, fun i hi h1 h2 => by rw [hH8, List.getElem?_set_ne (by omega), hf7.2 i (by simp; omega) h1 (by simp; omega)]; exact hgl hi⟩
  simp -dsimp (disch := first | assumption | omega | (simp only [Ae]; done) | (simp only [Ae]; omega)) only [↓Ag, Ac, Ah, Ai, eq_self, Nat.reduceEqDiff, ↓reduceIte, reduceCtorEq]
  refine (Al2 (row.take (v1 + 257)) true false (by rw [List.length_take]; omega)).calls rfl ?_
  rintro _ rfl
  simp -dsimp (disch := first | assumption | omega | (simp only [Ae]; done) | (simp only [Ae]; omega)) only [↓Ag, Ac, Ah, Ai, eq_self, Nat.reduceEqDiff, ↓reduceIte, Nat.reduceAdd, reduceCtorEq, ↓Ak]
  refine (Al2 (row.drop (v1 + 257)) true true (by rw [List.length_drop]; omega)).calls rfl ?_
  rintro _ rfl
  obtain ⟨rv, hrv⟩ : ∃ rv, row[256]? = some rv := ⟨_, List.getElem?_eq_getElem (by omega)⟩
  have hrv' : row.getD 256 0 = rv := by rw [List.getD_eq_getElem?_getD, hrv]; rfl
  rw [hrv'] at hR
  have hJ0 : ∀ j, J = some j → j < H.length := fun j hj => hst.x.jlt hj
  obtain ⟨c1, hc1⟩ : ∃ c1, c1 = Ob.obj 0 (Ahe (row.take (v1 + 257))) := ⟨_, rfl⟩
  obtain ⟨c2, hc2⟩ : ∃ c2, c2 = Ob.obj 0 (Ahe (row.drop (v1 + 257))) := ⟨_, rfl⟩
  have hl8b : H.length + 1 < H8.length := by omega
  have s9 : ∀ y1 y2, ET ((H8.set H.length y1).set (H.length + 1) y2 ++ [c1] ++ [c2]) id inn at2 o l most win J := fun y1 y2 => ((s8.set (by omega) (fun e => by have := hJ0 _ e; omega)).set (by omega) (fun e => by have := hJ0 _ e; omega)).app.app.ok
  have hF9 : ∀ y1 y2, Frm id none H ((H8.set H.length y1).set (H.length + 1) y2 ++ [c1] ++ [c2]) := fun y1 y2 => ⟨by simp; omega, fun i hi h1 h2 => by
   rw [List.append_assoc, List.getElem?_append_left (by simp; omega), List.getElem?_set_ne (by omega), List.getElem?_set_ne (by omega)]
   exact (fin4 (hF6.trans Jn.refl hF8)).2 i hi h1 h2⟩
  have kept : ∀ (e : Env) (A A' : List Ob), A.length = H8.length → A'.length = H8.length → get e 18 = .op H8.length 0 [] → get e 20 = .op (H8.length + 1) 0 [] → (∀ j v p, get e 172 ≠ .op j v p) → Abx [18, 20, 172] e (A ++ [c1] ++ [c2]) (A' ++ [c1] ++ [c2]) := by
   intro e A A' hA hA' g1 g2 g3 q hq j ver p hg
   simp only [List.mem_cons, List.not_mem_nil, or_false] at hq
   rcases hq with rfl | rfl | rfl
   ·rw [g1] at hg; cases hg
    simp [hA, hA']
   ·rw [g2] at hg; cases hg
    simp [hA, hA']
   ·exact absurd hg (g3 _ _ _)
  have hla : (row.take (v1 + 257)).length ≤ 1000 := by rw [List.length_take]; omega
  have hlb : (row.drop (v1 + 257)).length ≤ 1000 := by rw [List.length_drop]; omega
  have cva : Anv (Ahe (row.take (v1 + 257))) := .inr ⟨_, _, rfl⟩
  have cvb : Anv (Ahe (row.drop (v1 + 257))) := .inr ⟨_, _, rfl⟩
  have bad : (okC (row.take (v1 + 257)) true false && okC (row.drop (v1 + 257)) true true) = false ∨ rv = 0 → ∀ a b B, R = some (a, b, B) → (okC a true false && okC b true true) = false := by
   intro hb a b B h
   rw [hR] at h
   by_cases hr0 : rv = 0
   ·rw [if_pos hr0] at h; cases h
   ·rw [if_neg hr0] at h
    cases h
    exact hb.resolve_right hr0
  cases ha : okC (row.take (v1 + 257)) true false with
  | false =>
   simp -dsimp (disch := first | assumption | omega | (simp only [Ae]; done) | (simp only [Ae]; omega)) only [↓Ag, Ac, Ah, Ai, eq_self, Nat.reduceEqDiff, ↓reduceIte, Nat.reduceAdd, ↓Ak, k18, k28]
   rw [← hc1, ← hc2]
   refine ⟨⟨⟨hF9 _ _, _, _, false, rfl, cva, cvb, .inr ⟨rfl, .inl ⟨_, s9 _ _⟩, bad (.inl (by rw [ha]; rfl))⟩⟩, kept _ _ _ (by simp) (by simp) (by rfl) (by rfl) (by simp [get])⟩, kept _ _ _ rfl (by simp) (by rfl) (by rfl) (by simp [get])⟩
  | true =>
  cases hb : okC (row.drop (v1 + 257)) true true with
  | false =>
   simp -dsimp (disch := first | assumption | omega | (simp only [Ae]; done) | (simp only [Ae]; omega)) only [↓Ag, Ac, Ah, Ai, eq_self, Nat.reduceEqDiff, ↓reduceIte, Nat.reduceAdd, ↓Ak, k18, k28]
   rw [← hc1, ← hc2]
   refine ⟨⟨⟨hF9 _ _, _, _, false, rfl, cva, cvb, .inr ⟨rfl, .inl ⟨_, s9 _ _⟩, bad (.inl (by rw [ha, hb]; rfl))⟩⟩, kept _ _ _ (by simp) (by simp) (by rfl) (by rfl) (by simp [get])⟩, kept _ _ _ rfl (by simp) (by rfl) (by rfl) (by simp [get])⟩
  | true =>
  by_cases hr0 : rv = 0
  ·subst hr0
   simp -dsimp (disch := first | assumption | omega | (simp only [Ae]; done) | (simp only [Ae]; omega)) only [↓Ag, Ac, Ah, Ai, eq_self, Nat.reduceLT, Nat.reduceEqDiff, ↓reduceIte, Nat.reduceAdd, ↓Ak, hrv, k18, k28]
   rw [← hc1, ← hc2]
   refine ⟨⟨⟨hF9 _ _, _, _, false, rfl, cva, cvb, .inr ⟨rfl, .inl ⟨_, s9 _ _⟩, bad (.inr rfl)⟩⟩, kept _ _ _ (by simp) (by simp) (by rfl) (by rfl) (by simp [get])⟩, kept _ _ _ rfl (by simp) (by rfl) (by rfl) (by simp [get])⟩
  ·have hr1 : 0 < rv := by omega
   rw [if_neg hr0] at hR
   simp -dsimp (disch := first | assumption | omega | (simp only [Ae]; done) | (simp only [Ae]; omega)) only [↓Ag, Ac, Ah, Ai, eq_self, Nat.reduceEqDiff, ↓reduceIte, Nat.reduceAdd, ↓Ak, hrv, k18, k28, hr1]
   rw [← hc1, ← hc2]
   refine ⟨⟨⟨hF9 _ _, _, _, true, rfl, cva, cvb, .inl ⟨rfl, _, _, _, hR, s9 _ _, ha, hb, rfl, rfl, hla, hlb⟩⟩, kept _ _ _ (by simp) (by simp) (by rfl) (by rfl) (by simp [get])⟩, kept _ _ _ rfl (by simp) (by rfl) (by rfl) (by simp [get])⟩
end Go.Proofs.YtfgljddikcghhaaDoor


namespace Go.Proofs.YtfgljddikcghhaaDoor
open Go.RowKit
variable [AO]
set_option linter.unusedSectionVars false
set_option linter.unusedVariables false
set_option linter.unusedSimpArgs false

theorem Xm {i : Nat} : List.take i (List.range i) = List.range i := List.take_of_length_le (by simp)
def AeC (i : Nat) : Nat := if 143 < i ∧ i < 256 then 9 else if 255 < i ∧ i < 280 then 7 else 8
set_option maxRecDepth 100000 in
theorem AsE : (List.range 288).map AeC = FZ := by decide
theorem Asy : (List.range 32).map (fun _ => 5) = PI := by decide
set_option maxRecDepth 100000 in
theorem Axf : D5 Tryd.prog 37 [] (fun x => x = .tup [Ahe FZ, Ahe PI]) := by
 refine Ap.toPureV (Aku (by simp) ?_)
 simp -dsimp (disch := first | assumption | omega) only [↓Ag, Ac, Ah, Ai, eq_self, Nat.reduceEqDiff, ↓reduceIte, Nat.reduceAdd, reduceCtorEq, ↓Di]
 refine Bi (fun q e H => ∃ i v, q = 288 - i ∧ i ≤ 288 ∧ e = [(0, .op 0 0 []), (1, .op 1 0 []), (2, .os 1 2 v [] 0 i i), (3, i64 (i : Int))] ∧ H = [Du, Du, .obj v (.arr i 1 (((List.range i).map AeC).map fun (n : Nat) => i64 (n : Int)))]) 288 ?_ ?_
 ·exact ⟨0, 0, rfl, by omega, rfl, rfl⟩
 ·rintro q e H ⟨i, v, rfl, hi, rfl, rfl⟩
  have hstep : ((List.range i).map AeC).map (fun (n : Nat) => i64 (n : Int)) ++ [i64 ((AeC i : Nat) : Int)] = ((List.range (i + 1)).map AeC).map fun (n : Nat) => i64 (n : Int) := by rw [List.range_succ, List.map_append, List.map_append]; rfl
  by_cases hlt : i < 288
  ·by_cases c1 : 143 < i
   ·by_cases c2 : i < 256
    ·have hf : AeC i = 9 := by simp [AeC, c1, c2]
     simp -dsimp (disch := first | assumption | omega) only [↓Ag, Ac, Ah, Ai, eq_self, Nat.reduceEqDiff, ↓reduceIte, Nat.reduceAdd, reduceCtorEq, Nat.reduceLeDiff, ↓Di, DJ, List.length_range, Xm]
     exact VA (288 - (i + 1)) 3 (by omega) (by simp) rfl rfl ⟨i + 1, v + 1, rfl, by omega, rfl, by rw [← hstep, hf]; rfl⟩
    ·by_cases c3 : i < 280
     ·have hf : AeC i = 7 := by
       have : 255 < i := by omega
       simp [AeC, c2, c3, this]
      simp -dsimp (disch := first | assumption | omega) only [↓Ag, Ac, Ah, Ai, eq_self, Nat.reduceEqDiff, ↓reduceIte, Nat.reduceAdd, reduceCtorEq, Nat.reduceLeDiff, ↓Di, DJ, List.length_range, Xm]
      exact VA (288 - (i + 1)) 3 (by omega) (by simp) rfl rfl ⟨i + 1, v + 1, rfl, by omega, rfl, by rw [← hstep, hf]; rfl⟩
     ·have hf : AeC i = 8 := by simp [AeC, c2, c3]
      simp -dsimp (disch := first | assumption | omega) only [↓Ag, Ac, Ah, Ai, eq_self, Nat.reduceEqDiff, ↓reduceIte, Nat.reduceAdd, reduceCtorEq, Nat.reduceLeDiff, ↓Di, DJ, List.length_range, Xm]
      exact VA (288 - (i + 1)) 3 (by omega) (by simp) rfl rfl ⟨i + 1, v + 1, rfl, by omega, rfl, by rw [← hstep, hf]; rfl⟩
   ·have hf : AeC i = 8 := by
     have : ¬ 255 < i := by omega
     simp [AeC, c1, this]
    simp -dsimp (disch := first | assumption | omega) only [↓Ag, Ac, Ah, Ai, eq_self, Nat.reduceEqDiff, ↓reduceIte, Nat.reduceAdd, reduceCtorEq, Nat.reduceLeDiff, ↓Di, DJ, List.length_range, Xm]
    exact VA (288 - (i + 1)) 3 (by omega) (by simp) rfl rfl ⟨i + 1, v + 1, rfl, by omega, rfl, by rw [← hstep, hf]; rfl⟩
  ·have hie : i = 288 := by omega
   subst hie
   simp -dsimp (disch := first | assumption | omega) only [↓Ag, Ac, Ah, Ai, eq_self, Nat.reduceLT, Nat.reduceEqDiff, ↓reduceIte, Nat.reduceAdd, reduceCtorEq, ↓Di]
   refine Bi (fun q e H => ∃ i v2, q = 32 - i ∧ i ≤ 32 ∧ e = [(0, .op 0 0 []), (1, .op 1 0 []), (2, .os 1 2 v [] 0 288 288), (5, .os 1 3 v2 [] 0 i i), (6, i64 (i : Int))] ∧ H = [Du, Du, .obj v (.arr 288 1 (((List.range 288).map AeC).map fun (n : Nat) => i64 (n : Int))), .obj v2 (.arr i 1 (((List.range i).map fun _ => 5).map fun (n : Nat) => i64 (n : Int)))]) 32 ?_ ?_
   ·exact ⟨0, 0, rfl, by omega, rfl, rfl⟩
   ·rintro q e H ⟨i, v2, rfl, hi, rfl, rfl⟩
    by_cases hlt : i < 32
    ·simp -dsimp (disch := first | assumption | omega) only [↓Ag, Ac, Ah, Ai, eq_self, Nat.reduceEqDiff, ↓reduceIte, Nat.reduceAdd, reduceCtorEq, Nat.reduceLeDiff, ↓Di, DJ, List.length_range, Xm]
     exact VA (32 - (i + 1)) 4 (by omega) (by simp) rfl rfl ⟨i + 1, v2 + 1, rfl, by omega, rfl, by rw [show List.range (i + 1) = List.range i ++ [i] from List.range_succ, List.map_append, List.map_append]; rfl⟩
    ·have hie : i = 32 := by omega
     subst hie
     simp -dsimp (disch := first | assumption | omega) only [↓Ag, Ac, Ah, Ai, eq_self, Nat.reduceLT, Nat.reduceEqDiff, ↓reduceIte, reduceCtorEq, ↓Di]
     refine AmH (by rfl) (by rfl) (by simp) ?_
     refine AmH (by rfl) (by rfl) (by simp) ?_
     rw [AsE, Asy]
     have t1 : List.take 32 (List.drop 0 (PI.map fun (n : Nat) => i64 (n : Int))) = PI.map fun (n : Nat) => i64 (n : Int) := by rw [List.drop_zero, List.take_of_length_le (by simp [PI])]
     have t2 : List.take 288 (List.drop 0 (FZ.map fun (n : Nat) => i64 (n : Int))) = FZ.map fun (n : Nat) => i64 (n : Int) := by rw [List.drop_zero, List.take_of_length_le (by simp [FZ])]
     rw [t1, t2]
     simp -dsimp (disch := first | assumption | omega) only [↓Ag, Ac, Ah, Ai, eq_self, ↓reduceIte]
     refine (Al2 FZ false false (by simp [FZ])).calls rfl ?_
     rintro _ rfl
     simp -dsimp (disch := first | assumption | omega) only [↓Ag, Ac, Ah, Ai, eq_self, Nat.reduceEqDiff, ↓reduceIte, Nat.reduceAdd, reduceCtorEq]
     refine (Al2 PI false false (by simp [PI])).calls rfl ?_
     rintro _ rfl
     simp -dsimp (disch := first | assumption | omega) only [↓Ag, Ac, Ah, Ai, eq_self, Nat.reduceEqDiff, ↓reduceIte, Nat.reduceAdd, reduceCtorEq, ↓Di]
     refine ⟨?_, ?_⟩ <;>
     ·change Abx [7, 9] _ _ _
      intro s hs j ver p hg
      simp only [List.mem_cons, List.not_mem_nil, or_false] at hs
      rcases hs with rfl | rfl <;>
      ·simp [get] at hg
       obtain ⟨rfl, _⟩ := hg
       rfl
end Go.Proofs.YtfgljddikcghhaaDoor


namespace Go.Proofs.YtfgljddikcghhaaDoor
open Go.RowKit
variable [AO]
set_option linter.unusedSectionVars false
set_option linter.unusedVariables false
set_option linter.unusedSimpArgs false

section
omit [AO]
theorem AeV (x : UInt8) (l : List UInt8) : AC (x :: l) = AV 8 x.toNat ++ AC l := rfl
theorem Rn : ∀ (k : Nat) (l : List UInt8), (AC l).drop (8 * k) = AC (l.drop k)
 | 0, l => by simp
 | k + 1, [] => by simp [AC]
 | k + 1, x :: l => by
  rw [AeV, List.drop_append, AZ, List.drop_eq_nil_of_le (by rw [AZ]; omega), List.nil_append, show 8 * (k + 1) - 8 = 8 * k by omega, Rn k l, List.drop_succ_cons]
theorem Ary {l : List UInt8} {k : Nat} {c : UInt8} (h : l[k]? = some c) : C9 (((AC l).drop (8 * k)).take 8) = c.toNat := by
 obtain ⟨hk, rfl⟩ := List.getElem?_eq_some_iff.1 h
 rw [Rn, List.drop_eq_getElem_cons hk, AeV, List.take_append_of_le_length (by rw [AZ]; omega), List.take_of_length_le (by rw [AZ]; omega), Z7]
 have := l[k].toNat_lt
 omega
theorem Xz {l : List UInt8} {n a : Nat} (h : a + n ≤ l.length) : AgY n ((AC l).drop (8 * a)) = (l.drop a).take n := by
 apply List.ext_getElem?
 intro i
 unfold AgY
 rw [List.getElem?_map]
 by_cases hi : i < n
 ·obtain ⟨c, hc⟩ : ∃ c, l[a + i]? = some c := ⟨_, List.getElem?_eq_getElem (by omega)⟩
  have h1 : (List.range n)[i]? = some i := by simp [hi]
  rw [List.getElem?_take, if_pos hi, List.getElem?_drop, hc]
  have h2 := Ary hc
  rw [h1, Option.map_some, List.drop_drop, show 8 * a + 8 * i = 8 * (a + i) by omega, h2]
  simp
 ·rw [List.getElem?_take, if_neg hi]
  have h1 : (List.range n)[i]? = none := by simp; omega
  simp [h1]
end
/-- Behind an error no byte comes out. -/
theorem AC6 {id err at_ : Nat} {inn : List UInt8} {o : TV} {m f : Int} {b : UInt8} {H : List Ob} (hw : AU o = 1) (he : err ≠ 0) (h : H[id]? = some (stm inn at_ o m f err)) : Ap Tryd.prog 53 [.op id 0 [], by8 b] H (fun x H' => H' = H) := by
 have hid : id < H.length := (List.getElem?_eq_some_iff.1 h).1
 refine TJ (by simp) ?_
 simp -dsimp (disch := first | assumption | omega | (simp only [Ae]; done) | (simp only [Ae]; omega)) only [↓Ag, Ac, Ah, Ai, eq_self, Nat.reduceEqDiff, ↓reduceIte, Nat.reduceAdd, reduceCtorEq, ↓BX, h, hw]
/-- What a block leaves behind. -/
def Yh (id : Nat) (J : Option Nat) (H : List Ob) (inn : List UInt8) (most win : Int) (R : Res) (H' : List Ob) : Prop := Frm id J H H' ∧ match R with
 | .ok (B, l') => ∃ at' o' J', B = (AC inn).drop at' ∧ ET H' id inn at' o' l' most win J' ∧ Jn J J' H
 | .error e => WF H' id inn most win e
theorem AuW {id at_ : Nat} {inn l : List UInt8} {o : TV} {most win : Int} {J : Option Nat} {H : List Ob} (hst : ET H id inn at_ o l most win J) (hi : inn.length ≤ 1000000) (hm : -9223372036854775808 ≤ most ∧ most ≤ 1000000) :
  Ap Tryd.prog 36 [.op id 0 []] H (fun x H' => Yh id J H inn most win (Yg most ((AC inn).drop at_) l) H') := by
 have hid := hst.lt
 have hat := hst.at_
 have ho := hst.ob
 have hw := hst.row.width1
 refine AaR (by simp) ?_
 obtain ⟨A, hA⟩ : ∃ A, A = (at_ + 7) / 8 := ⟨_, rfl⟩
 have hAl : A ≤ inn.length := by omega
 have hB : ((AC inn).drop at_).length = 8 * inn.length - at_ := by rw [List.length_drop, Bj]
 have hC : ((AC inn).drop at_).drop (((AC inn).drop at_).length % 8) = (AC inn).drop (8 * A) := by rw [List.drop_drop, hB]; congr 1; omega
 have hCl : ((AC inn).drop (8 * A)).length = 8 * (inn.length - A) := by rw [List.length_drop, Bj]; omega
 obtain ⟨R, hR⟩ : ∃ R, R = Yg most ((AC inn).drop at_) l := ⟨_, rfl⟩
 rw [← hR]
 unfold Yg at hR
 simp only [hC] at hR
 simp -dsimp (disch := first | assumption | omega | (simp only [Ae]; done) | (simp only [Ae]; omega)) only [↓Ag, Ac, Ah, Ai, eq_self, Nat.reduceEqDiff, ↓reduceIte, Nat.reduceAdd, reduceCtorEq, ↓AQ, ho]
 rw [← hA, show A * 8 = 8 * A by omega]
 have s1 : Afp (H.set id (stm inn (8 * A) o most win 0)) id inn (8 * A) o l most win J true := ⟨by simp [hid], hst.row.set hst.ne, hst.ne, fun _ => by omega, hst.len⟩
 refine Ap.mono (AaN (n := 16) s1 (by omega) hi) ?_
 rintro x H2 ⟨f2, l2, s2, hx⟩
 rw [Bool.true_and] at hx s2
 obtain ⟨v1, hv1⟩ : ∃ v : Nat, v = (if decide (16 ≤ ((AC inn).drop (8 * A)).length) = true then C9 (((AC inn).drop (8 * A)).take 16) else 0) := ⟨_, rfl⟩
 rw [← hv1] at hx
 subst hx
 have hv1l : v1 < 65536 := by have := DN 16 ((AC inn).drop (8 * A)); rw [hv1]; split <;> omega
 simp -dsimp (disch := first | assumption | omega | (simp only [Ae]; done) | (simp only [Ae]; omega)) only [↓Ag, Ac, Ah, Ai, eq_self, ↓reduceIte, reduceCtorEq, ↓AQ]
 refine Ap.mono (AaN (n := 16) s2 (by omega) hi) ?_
 rintro x H3 ⟨f3, l3, s3, hx⟩
 obtain ⟨v2, hv2⟩ : ∃ v : Nat, v = (if (decide (16 ≤ ((AC inn).drop (8 * A)).length) && decide (16 ≤ ((AC inn).drop (8 * A + 16)).length)) = true then C9 (((AC inn).drop (8 * A + 16)).take 16) else 0) := ⟨_, rfl⟩
 rw [← hv2] at hx
 subst hx
 have hv2l : v2 < 65536 := by have := DN 16 ((AC inn).drop (8 * A + 16)); rw [hv2]; split <;> omega
 have hok : (decide (16 ≤ ((AC inn).drop (8 * A)).length) && decide (16 ≤ ((AC inn).drop (8 * A + 16)).length)) = decide (32 ≤ ((AC inn).drop (8 * A)).length) := by
  rw [← Bool.decide_and]
  congr 1
  simp only [List.length_drop]
  apply propext; omega
 rw [hok] at s3 hv2
 have hF3 : Frm id none H H3 := (Frm.set.trans Jn.refl f2).trans Jn.refl f3
 have ho3 := s3.ob
 by_cases h32 : 32 ≤ ((AC inn).drop (8 * A)).length
 case neg =>
  rw [decide_eq_false h32] at s3 ho3
  simp only [Bool.false_eq_true, if_false] at ho3
  rw [if_pos (.inl (by omega))] at hR
  simp -dsimp (disch := first | assumption | omega | (simp only [Ae]; done) | (simp only [Ae]; omega)) only [↓Ag, Ac, Ah, Ai, eq_self, Nat.reduceEqDiff, ↓reduceIte, Nat.reduceAdd, reduceCtorEq, ↓AQ, ho3, hw]
  refine Ap.mono (Aeh (e := 10) hw ho3) ?_
  intro x H4 hx
  rw [if_neg (by decide)] at hx
  subst hx
  simp -dsimp (disch := first | assumption | omega | (simp only [Ae]; done) | (simp only [Ae]; omega)) only [↓Ag, Ac, Ah, ↓AQ]
  rw [hR]
  exact ⟨(hF3.trans Jn.refl Frm.set).weak, by simp, _, o, Nat.le_refl _, hw, by simp [s3.lt]⟩
 rw [decide_eq_true h32] at s3 ho3 hv2
 simp only [if_true] at ho3 hv2
 rw [decide_eq_true (by omega : 16 ≤ ((AC inn).drop (8 * A)).length), if_pos rfl] at hv1
 simp only [List.drop_drop] at hR
 rw [← hv1, ← hv2] at hR
 rw [hCl] at h32 hR
 have hbad : (R = .error 10) → Ap Tryd.prog 35 [.op id 0 [], i64 ((10 : Nat) : Int)] H3 (fun x H' => Yh id J H inn most win R H') := by
  intro hRe
  refine Ap.mono (Aeh (e := 10) hw ho3) ?_
  intro x H4 hx
  rw [if_pos rfl] at hx
  subst hx
  rw [hRe]
  exact ⟨(hF3.trans Jn.refl Frm.set).weak, by simp, _, o, s3.at_ rfl, hw, by simp [s3.lt]⟩
 have hdiv : (8 * A + 16 + 16) / 8 = A + 4 := by omega
 have hlen3 : (inn.length : Int) - ((A + 4 : Nat) : Int) = ((inn.length - (A + 4) : Nat) : Int) := by omega
 by_cases hne : v1 + v2 = 65535
 case neg =>
  simp -dsimp (disch := first | assumption | omega | (simp only [Ae]; done) | (simp only [Ae]; omega)) only [↓Ag, Ac, Ah, Ai, eq_self, Nat.reduceEqDiff, ↓reduceIte, Nat.reduceAdd, reduceCtorEq, ↓AQ, ho3, hw, hdiv]
  refine Ap.mono (hbad (by rw [hR, if_pos (.inr (.inl hne))])) ?_
  intro x H4 hx
  simp -dsimp (disch := first | assumption | omega | (simp only [Ae]; done) | (simp only [Ae]; omega)) only [↓Ag, Ac, Ah, ↓AQ]
  exact hx
 by_cases hlong : inn.length - (A + 4) < v1
 case pos =>
  simp -dsimp (disch := first | assumption | omega | (simp only [Ae]; done) | (simp only [Ae]; omega)) only [↓Ag, Ac, Ah, Ai, eq_self, Nat.reduceEqDiff, ↓reduceIte, Nat.reduceAdd, reduceCtorEq, ↓AQ, ho3, hw, hdiv]
  refine Ap.mono (hbad (by rw [hR, if_pos (.inr (.inr (by omega)))])) ?_
  intro x H4 hx
  simp -dsimp (disch := first | assumption | omega | (simp only [Ae]; done) | (simp only [Ae]; omega)) only [↓Ag, Ac, Ah, ↓AQ]
  exact hx
 rw [if_neg (by omega), show 8 * A + 32 = 8 * (A + 4) by omega, Xz (by omega)] at hR
 obtain ⟨xs, hxs⟩ : ∃ xs, xs = (inn.drop (A + 4)).take v1 := ⟨_, rfl⟩
 have hxl : xs.length = v1 := by rw [hxs, List.length_take, List.length_drop]; omega
 rw [← hxs] at hR
 simp -dsimp (disch := first | assumption | omega | (simp only [Ae]; done) | (simp only [Ae]; omega)) only [↓Ag, Ac, Ah, Ai, eq_self, Nat.reduceEqDiff, ↓reduceIte, Nat.reduceAdd, reduceCtorEq, ↓AQ, ho3, hw, hdiv]
 refine Bi (fun q e H' => ∃ k : Nat, q = v1 - k ∧ k ≤ v1 ∧ e = [(0, .op id 0 []), (2, i64 (v1 : Int)), (4, i64 ((A + 4 : Nat) : Int)), (5, i64 (k : Int))] ∧ Frm id J H3 H' ∧
  ((∃ l' J' o', Aeo most l xs = Aeo most l' (xs.drop k) ∧ ET H' id inn (8 * A + 16 + 16) o' l' most win J' ∧ Jn J J' H3) ∨ (Aeo most l xs = none ∧ ∃ o', AU o' = 1 ∧ H'[id]? = some (stm inn (8 * A + 16 + 16) o' most win 11)))) v1 ?_ ?_
 ·exact ⟨0, rfl, by omega, rfl, Frm.refl, .inl ⟨l, J, o, rfl, s3.ok, Jn.refl⟩⟩
 ·rintro q e H' ⟨k, rfl, hk, rfl, hfr, hc⟩
  by_cases hlt : k < v1
  ·obtain ⟨b, hb⟩ : ∃ b, inn[A + 4 + k]? = some b := ⟨_, List.getElem?_eq_getElem (by omega)⟩
   have hxk : xs.drop k = b :: xs.drop (k + 1) := by
    have hbk : xs[k]? = some b := by rw [hxs, List.getElem?_take, if_pos hlt, List.getElem?_drop]; exact hb
    obtain ⟨h1, h2⟩ := List.getElem?_eq_some_iff.1 hbk
    rw [List.drop_eq_getElem_cons h1, h2]
   rcases hc with ⟨l', J', o', c1, hs, hj⟩ | ⟨c1, o', c2, c3⟩
   ·have ho' := hs.ob
    have hw' := hs.row.width1
    have hlen := hs.len
    rw [hxk, Aeo] at c1
    simp -dsimp (disch := first | assumption | omega | (simp only [Ae]; done) | (simp only [Ae]; omega)) only [↓Ag, Ac, Ah, Ai, eq_self, Nat.reduceEqDiff, ↓reduceIte, reduceCtorEq, ↓AQ, ho', hb]
    refine Ap.mono (Ayl ho' hs.row hs.ne (by omega) (by omega)) ?_
    intro x H4 hx
    simp only [ne_eq, not_true_eq_false, if_false] at hx
    by_cases hmo : most ≤ (l'.length : Int)
    ·rw [if_pos hmo] at hx c1
     subst hx
     simp -dsimp (disch := first | assumption | omega | (simp only [Ae]; done) | (simp only [Ae]; omega)) only [↓Ag, Ac, Ah, Ai, eq_self, Nat.reduceEqDiff, ↓reduceIte, reduceCtorEq]
     exact Am (v1 - (k + 1)) (by omega) (by have := hfr.1; simp; omega) ⟨k + 1, rfl, by omega, rfl, hfr.trans hj Frm.set, .inr ⟨c1, o', hw', by simp [hs.lt]⟩⟩
    ·rw [if_neg hmo] at hx c1
     obtain ⟨o3, j, g1, g2, g3, g4, g5, g6⟩ := hx
     have hj2 : Jn J' (some j) H' := by
      rcases g4 with e | e
      ·exact .inl e.symm
      ·exact .inr fun j2 h2 => by cases h2; exact e
     simp -dsimp (disch := first | assumption | omega | (simp only [Ae]; done) | (simp only [Ae]; omega)) only [↓Ag, Ac, Ah, Ai, eq_self, Nat.reduceEqDiff, ↓reduceIte, reduceCtorEq]
     exact Am (v1 - (k + 1)) (by omega) (by have := hfr.1; omega) ⟨k + 1, rfl, by omega, rfl, hfr.trans hj ⟨g6, g5⟩, .inl ⟨l' ++ [b], some j, o3, c1, ⟨g1, g2, by simpa using g3, hs.at_, by simp; omega⟩, Jn.trans hfr hj hj2⟩⟩
   ·simp -dsimp (disch := first | assumption | omega | (simp only [Ae]; done) | (simp only [Ae]; omega)) only [↓Ag, Ac, Ah, Ai, eq_self, Nat.reduceEqDiff, ↓reduceIte, reduceCtorEq, ↓AQ, c3, hb]
    refine Ap.mono (AC6 c2 (by decide) c3) ?_
    intro x H4 hx
    subst hx
    simp -dsimp (disch := first | assumption | omega | (simp only [Ae]; done) | (simp only [Ae]; omega)) only [↓Ag, Ac, Ah, Ai, eq_self, Nat.reduceEqDiff, ↓reduceIte, reduceCtorEq]
    exact Am (v1 - (k + 1)) (by omega) (by have := hfr.1; omega) ⟨k + 1, rfl, by omega, rfl, hfr, .inr ⟨c1, o', c2, c3⟩⟩
  ·have hkn : k = v1 := by omega
   subst hkn
   have hdn : xs.drop k = [] := List.drop_eq_nil_of_le (by omega)
   rcases hc with ⟨l', J', o', c1, hs, hj⟩ | ⟨c1, o', c2, c3⟩
   ·have ho' := hs.ob
    have hw' := hs.row.width1
    rw [hdn, Aeo] at c1
    rw [c1] at hR
    simp only at hR
    simp -dsimp (disch := first | assumption | omega | (simp only [Ae]; done) | (simp only [Ae]; omega)) only [↓Ag, Ac, Ah, Ai, eq_self, Nat.reduceEqDiff, ↓reduceIte, Nat.reduceAdd, reduceCtorEq, ↓AQ, ho']
    rw [hR]
    refine ⟨(hF3.weak.trans Jn.refl hfr).trans (Jn.trans hF3.weak Jn.refl hj) Frm.set, 8 * A + 16 + 16 + 8 * k, o', J', by congr 1; omega, ⟨by simp [hs.lt], hs.row.set hs.ne, hs.ne, by omega, hs.len⟩, ?_⟩
    exact Jn.trans hF3.weak Jn.refl hj
   ·rw [c1] at hR
    simp only at hR
    have hlt4 := (List.getElem?_eq_some_iff.1 c3).1
    simp -dsimp (disch := first | assumption | omega | (simp only [Ae]; done) | (simp only [Ae]; omega)) only [↓Ag, Ac, Ah, Ai, eq_self, Nat.reduceEqDiff, ↓reduceIte, Nat.reduceAdd, reduceCtorEq, ↓AQ, c3]
    rw [hR]
    exact ⟨(hF3.weak.trans Jn.refl hfr).trans (J' := none) (.inr fun j h => by cases h) Frm.set, by simp, 8 * A + 16 + 16 + 8 * k, o', by omega, c2, by simp [hlt4]⟩
end Go.Proofs.YtfgljddikcghhaaDoor


namespace Go.Proofs.YtfgljddikcghhaaDoor
open Go.RowKit
variable [AO]
set_option linter.unusedSectionVars false
set_option linter.unusedVariables false
set_option linter.unusedSimpArgs false

theorem AjG (ls : List Nat) : Aud (rdR ls) := fun B y B1 h => by
 obtain ⟨_, n, h1, h2, rfl⟩ := Aet h
 rw [List.length_drop]; omega
/-- Behind an error a block's symbols are not read. -/
theorem ABr {id err at_ : Nat} {inn : List UInt8} {o : TV} {m f : Int} {c d : TV} {H : List Ob} (hw : AU o = 1) (he : err ≠ 0) (hc : Anv c) (hd : Anv d) (h : H[id]? = some (stm inn at_ o m f err)) :
  Ap Tryd.prog 38 [.op id 0 [], c, d] H (fun x H' => ∃ G, H' = H ++ G) := by
 have hid : id < H.length := (List.getElem?_eq_some_iff.1 h).1
 refine KR (by simp) ?_
 have fin : ∀ c1 c2 d1 d2 : TV, AU c1 = 1 → AU c2 = 1 → AU d1 = 1 → AU d2 = 1 → True := fun _ _ _ _ _ _ _ _ => trivial
 rcases hc with rfl | ⟨ls, bs, rfl⟩ <;> rcases hd with rfl | ⟨ld, bd, rfl⟩
 all_goals
  simp -dsimp (disch := first | assumption | omega | (simp only [Ae]; done) | (simp only [Ae]; omega)) only [↓Ag, Ac, Ah, Ai, eq_self, Nat.reduceEqDiff, ↓reduceIte, Nat.reduceAdd, reduceCtorEq, ↓Aj]
  refine Bi (fun q e H' => (∃ L L2, e = [(0, .op id 0 []), (4, .op L 0 []), (5, .op L2 0 [])]) ∧ ∃ G, H' = H ++ G) 0 ?_ ?_
  ·exact ⟨⟨_, _, rfl⟩, _, by rw [List.append_assoc]⟩
  ·rintro q e H' ⟨⟨L, L2, rfl⟩, G, rfl⟩
   have h' : (H ++ G)[id]? = some (stm inn at_ o m f err) := by rw [List.getElem?_append_left hid]; exact h
   simp -dsimp (disch := first | assumption | omega | (simp only [Ae]; done) | (simp only [Ae]; omega)) only [↓Ag, Ac, Ah, Ai, eq_self, Nat.reduceEqDiff, ↓reduceIte, Nat.reduceAdd, reduceCtorEq, ↓Aj, h', hw]
   exact ⟨_, rfl⟩
theorem AeO : FZ.length = 288 := by simp only [FZ, List.length_append, List.length_replicate]
theorem AhY : PI.length = 32 := by simp only [PI, List.length_replicate]
/-- What is known behind some blocks. -/
def AlN (b : List UInt8) (most win : Int) (R : Res) (q : Nat) (last : Nat) (H : List Ob) : Prop :=
 (last = 0 ∧ ∃ at_ o l J, ET H 0 b at_ o l most win J ∧ ((AC b).drop at_).length < q ∧ R = EX okC rdR most win q ((AC b).drop at_) l) ∨
 (q = 0 ∧ last = 1 ∧ ∃ at_ o l J, ET H 0 b at_ o l most win J ∧ R = .ok ((AC b).drop at_, l)) ∨
 (q = 0 ∧ last ≤ 1 ∧ ∃ e, R = .error e ∧ WF H 0 b most win e)
def ArY (b : List UInt8) (most win : Int) (R : Res) (H : List Ob) : Prop := match R with
 | .ok (B, l) => ∃ at_ o J, B = (AC b).drop at_ ∧ ET H 0 b at_ o l most win J
 | .error e => WF H 0 b most win e
/-- What follows from what a block did. -/
theorem AlN.of_res {b : List UInt8} {most win : Int} {R : Res} {q v1 : Nat} {H H' : List Ob} {B : List Bool} {l : List UInt8} {r : Res} {J : Option Nat} (hR : R = EX okC rdR most win (q + 1) B l) (hv : v1 ≤ 1) (hq : B.length < q + 1) (hb : P8 okC rdR most win B l = (v1 == 1, r)) (h : Yh 0 J H b most win r H') : ∃ q' last', q' < q + 1 ∧ last' = v1 ∧ AlN b most win R q' last' H' := by
 rw [EX, hb] at hR
 obtain ⟨_, h⟩ := h
 cases r with
 | error e => exact ⟨0, v1, by omega, rfl, .inr (.inr ⟨rfl, hv, e, hR, h⟩)⟩
 | ok p =>
  obtain ⟨B', l'⟩ := p
  obtain ⟨at', o', J', rfl, hs, _⟩ := h
  have hlen := AjK AjG hb
  have hv2 : v1 = 0 ∨ v1 = 1 := by omega
  rcases hv2 with rfl | rfl
  ·exact ⟨q, 0, by omega, rfl, .inl ⟨rfl, at', o', l', J', hs, by omega, hR⟩⟩
  ·exact ⟨0, 1, by omega, rfl, .inr (.inl ⟨rfl, rfl, at', o', l', J', hs, hR⟩)⟩
set_option maxHeartbeats 1000000 in
theorem AtN {x y : UInt8} {r : List UInt8} {most : Int} (hl : (x :: y :: r).length ≤ 1000000) (hx : x.toNat / 16 ≤ 7) (hm : -9223372036854775808 ≤ most ∧ most ≤ 1000000) :
  Ap Tryd.prog 19 [slB (x :: y :: r), i64 most] [] (fun v H' => v = .op 0 0 [] ∧ ArY (x :: y :: r) most ((2 ^ (x.toNat / 16 + 8) : Nat) : Int) (EX okC rdR most ((2 ^ (x.toNat / 16 + 8) : Nat) : Int) (8 * r.length + 1) (AC r) []) H') := by
 obtain ⟨b, hb⟩ : ∃ b, b = x :: y :: r := ⟨_, rfl⟩
 have hb0 : b[0]? = some x := by rw [hb]; rfl
 have hB : (AC b).drop 16 = AC r := by rw [hb, Rn 2]; rfl
 have hbl : b.length = r.length + 2 := by rw [hb]; rfl
 rw [← hb] at hl ⊢
 have hxl := x.toNat_lt
 obtain ⟨W, hW⟩ : ∃ W, W = 2 ^ (x.toNat / 16 + 8) := ⟨_, rfl⟩
 have hW2 : 1 * 2 ^ (x.toNat / 16 % 8 + 8) = W := by rw [hW, Nat.mod_eq_of_lt (by omega), Nat.one_mul]
 have hWl : W ≤ 32768 := by rw [hW]; exact Nat.le_trans (Nat.pow_le_pow_right (by omega) (by omega : x.toNat / 16 + 8 ≤ 15)) (by decide)
 rw [← hW]
 obtain ⟨R, hR⟩ : ∃ R, R = EX okC rdR most (W : Int) (8 * r.length + 1) (AC r) [] := ⟨_, rfl⟩
 rw [← hR]
 refine Ajp (by simp) ?_
 have hsh : 1 * 2 ^ (x.toNat / 16 % 8 + 8) ≤ 9223372036854775807 := by rw [hW2]; omega
 simp -dsimp (disch := first | assumption | omega | (simp only [Ae]; done) | (simp only [Ae]; omega)) only [↓Ag, Ac, Ah, Ai, eq_self, Nat.reduceEqDiff, ↓reduceIte, Nat.reduceAdd, reduceCtorEq, ↓BK, hb0, hW2]
 refine Bi (fun q e H => ∃ last : Nat, e = [(5, .op 0 0 []), (6, i64 (last : Int))] ∧ AlN b most W R q last H) (8 * r.length + 1) ?_ ?_
 ·refine ⟨0, rfl, .inl ⟨rfl, 16, AiR, [], none, ⟨rfl, ⟨rfl, rfl⟩, by simp, by omega, by simp⟩, ?_, ?_⟩⟩
  ·rw [hB, Bj]; omega
  ·rw [hB]; exact hR
 ·rintro q e H ⟨last, rfl, hI⟩
  rcases hI with ⟨rfl, at_, o, l, J, hs, hq, hR1⟩ | ⟨rfl, rfl, at_, o, l, J, hs, hR1⟩ | ⟨rfl, hla, e, hR1, hbad⟩
  case inr.inl =>
   have ho := hs.ob
   have hw := hs.row.width1
   simp -dsimp (disch := first | assumption | omega | (simp only [Ae]; done) | (simp only [Ae]; omega)) only [↓Ag, Ac, Ah, Ai, eq_self, Nat.reduceEqDiff, ↓reduceIte, reduceCtorEq, ↓BK]
   rw [hR1]
   exact ⟨at_, o, J, rfl, hs⟩
  case inr.inr =>
   obtain ⟨b1, a2, o2, b2, b3, b4⟩ := hbad
   have hbad' : ArY b most W R H := by rw [hR1]; exact ⟨b1, a2, o2, b2, b3, b4⟩
   by_cases hl0 : last = 0
   ·subst hl0
    simp -dsimp (disch := first | assumption | omega | (simp only [Ae]; done) | (simp only [Ae]; omega)) only [↓Ag, Ac, Ah, Ai, eq_self, Nat.reduceEqDiff, ↓reduceIte, Nat.reduceAdd, ↓BK, b4, b3]
    exact hbad'
   ·simp -dsimp (disch := first | assumption | omega | (simp only [Ae]; done) | (simp only [Ae]; omega)) only [↓Ag, Ac, Ah, Ai, eq_self, Nat.reduceEqDiff, ↓reduceIte, ↓BK]
    exact hbad'
  obtain ⟨f, rfl⟩ : ∃ f, q = f + 1 := ⟨q - 1, by omega⟩
  have ho := hs.ob
  have hw := hs.row.width1
  have hlt := hs.lt
  obtain ⟨B, hBB⟩ : ∃ B, B = (AC b).drop at_ := ⟨_, rfl⟩
  have hBl : B.length = 8 * b.length - at_ := by rw [hBB, List.length_drop, Bj]
  simp -dsimp (disch := first | assumption | omega | (simp only [Ae]; done) | (simp only [Ae]; omega)) only [↓Ag, Ac, Ah, Ai, eq_self, Nat.reduceEqDiff, ↓reduceIte, Nat.reduceAdd, ↓BK, ho, hw]
  refine Ap.mono (AaN (n := 1) hs.x (by omega) hl) ?_
  rintro v H2 ⟨f2, l2, s2, hv⟩
  rw [Bool.true_and, ← hBB] at hv s2
  obtain ⟨v1, hv1⟩ : ∃ v : Nat, v = (if decide (1 ≤ B.length) = true then C9 (B.take 1) else 0) := ⟨_, rfl⟩
  rw [← hv1] at hv
  subst hv
  have hv1l : v1 < 2 := by have := DN 1 B; rw [hv1]; split <;> omega
  simp -dsimp (disch := first | assumption | omega | (simp only [Ae]; done) | (simp only [Ae]; omega)) only [↓Ag, Ac, Ah, Ai, eq_self, Nat.reduceEqDiff, ↓reduceIte, ↓BK]
  refine Ap.mono (AaN (n := 2) s2 (by omega) hl) ?_
  rintro v H3 ⟨f3, l3, s3, hv⟩
  rw [show (AC b).drop (at_ + 1) = B.drop 1 by rw [hBB, List.drop_drop]] at hv s3
  obtain ⟨v2, hv2⟩ : ∃ v : Nat, v = (if (decide (1 ≤ B.length) && decide (2 ≤ (B.drop 1).length)) = true then C9 ((B.drop 1).take 2) else 0) := ⟨_, rfl⟩
  rw [← hv2] at hv
  subst hv
  have hv2l : v2 < 4 := by have := DN 2 (B.drop 1); rw [hv2]; split <;> omega
  have hok : (decide (1 ≤ B.length) && decide (2 ≤ (B.drop 1).length)) = decide (3 ≤ B.length) := by
   rw [← Bool.decide_and]
   congr 1
   simp only [List.length_drop]
   apply propext; omega
  rw [hok] at s3 hv2
  have hF3 : Frm 0 none H H3 := f2.trans Jn.refl f3
  have ho3 := s3.ob
  have h3l := s3.lt
  by_cases h3 : 3 ≤ B.length
  case neg =>
   rw [decide_eq_false h3] at s3 ho3
   simp only [Bool.false_eq_true, if_false] at ho3
   have hRe : R = .error 10 := by rw [hR1, EX, P8, ← hBB, if_pos (by omega)]
   simp -dsimp (disch := first | assumption | omega | (simp only [Ae]; done) | (simp only [Ae]; omega)) only [↓Ag, Ac, Ah, Ai, eq_self, Nat.reduceEqDiff, ↓reduceIte, Nat.reduceAdd, reduceCtorEq, ↓BK, ho3, hw]
   refine Ap.mono (Aeh (e := 10) hw ho3) ?_
   intro v H4 hx
   rw [if_neg (by decide)] at hx
   subst hx
   simp -dsimp (disch := first | assumption | omega | (simp only [Ae]; done) | (simp only [Ae]; omega)) only [↓Ag, Ac, Ah, Ai, eq_self, Nat.reduceEqDiff, ↓reduceIte]
   exact Am 0 (by omega) (by simp; omega) ⟨v1, rfl, .inr (.inr ⟨rfl, by omega, 10, hRe, by simp, _, o, Nat.le_refl _, hw, by simp [h3l]⟩)⟩
  rw [decide_eq_true h3] at s3 ho3 hv2
  simp only [if_true] at ho3 hv2
  rw [decide_eq_true (by omega : 1 ≤ B.length), if_pos rfl] at hv1
  rw [← hBB] at hR1 hq
  have hdrop3 : (AC b).drop (at_ + 1 + 2) = B.drop 3 := by rw [hBB, List.drop_drop]
  have hblk : ∀ r, Ahn okC rdR most W (B.length + 1) (B.drop 3) l v2 = r → P8 okC rdR most W B l = (v1 == 1, r) := by
   intro r hr
   rw [P8, if_neg (by omega), ← hv1, ← hv2, hr]
  have fin : ∀ {r : Res} {G H' : List Ob}, P8 okC rdR most W B l = (v1 == 1, r) → Yh 0 J G b most W r H' → 0 < H'.length → ∃ q' last', q' < f + 1 ∧ last' = v1 ∧ AlN b most W R q' last' H' := fun hb1 hp _ => AlN.of_res hR1 (by omega) hq hb1 hp
  have plen : ∀ {r : Res} {G H' : List Ob}, Yh 0 J G b most W r H' → 0 < G.length → 0 < H'.length := fun hp hg => by have := hp.1.1; omega
  have hcase : v2 = 0 ∨ v2 = 1 ∨ v2 = 2 ∨ v2 = 3 := by omega
  rcases hcase with e2 | e2 | e2 | e2
  ·rw [e2]
   simp -dsimp (disch := first | assumption | omega | (simp only [Ae]; done) | (simp only [Ae]; omega)) only [↓Ag, Ac, Ah, Ai, eq_self, Nat.reduceEqDiff, ↓reduceIte, Nat.reduceAdd, reduceCtorEq, ↓BK, ho3, hw]
   refine Ap.mono (AuW s3.ok hl hm) ?_
   intro v H4 hp
   rw [hdrop3] at hp
   obtain ⟨q', last', hq', rfl, hI'⟩ := fin (hblk _ (by rw [e2, Ahn])) hp (plen hp (by omega))
   have := plen hp (by omega)
   simp -dsimp (disch := first | assumption | omega | (simp only [Ae]; done) | (simp only [Ae]; omega)) only [↓Ag, Ac, Ah, Ai, eq_self, Nat.reduceEqDiff, ↓reduceIte]
   exact Am q' hq' (by omega) ⟨last', rfl, hI'⟩
  ·rw [e2]
   simp -dsimp (disch := first | assumption | omega | (simp only [Ae]; done) | (simp only [Ae]; omega)) only [↓Ag, Ac, Ah, Ai, eq_self, Nat.reduceEqDiff, ↓reduceIte, Nat.reduceAdd, reduceCtorEq, ↓BK, ho3, hw]
   refine Axf.calls rfl ?_
   rintro _ rfl
   simp -dsimp (disch := first | assumption | omega | (simp only [Ae]; done) | (simp only [Ae]; omega)) only [↓Ag, Ac, Ah, Ai, eq_self, Nat.reduceEqDiff, ↓reduceIte, Nat.reduceAdd]
   refine Ap.mono (Awm (ls := FZ) (bs := (CSt.all FZ 15).bs) (ld := PI) (bd := (CSt.all PI 15).bs) (B.length + 1) s3.app.app.ok ?_ hl (by rw [CSt.all_len]) (by rw [AeO]; omega) (by rw [CSt.all_len]) (by rw [AhY]; omega) hm (by omega)) ?_
   ·rw [hdrop3, List.length_drop]; omega
   intro v H4 hp
   rw [hdrop3] at hp
   have hp' : Yh 0 J (H3 ++ [Ob.obj 0 (Ahe FZ)] ++ [Ob.obj 0 (Ahe PI)]) b most W (AgV (rdR FZ) (rdR PI) most W (B.length + 1) (B.drop 3) l) H4 := hp
   obtain ⟨q', last', hq', rfl, hI'⟩ := fin (hblk _ (by rw [e2, Ahn])) hp' (plen hp' (by simp))
   have := plen hp' (by simp)
   simp -dsimp (disch := first | assumption | omega | (simp only [Ae]; done) | (simp only [Ae]; omega)) only [↓Ag, Ac, Ah, Ai, eq_self, Nat.reduceEqDiff, ↓reduceIte]
   exact Am q' hq' (by omega) ⟨last', rfl, hI'⟩
  ·rw [e2]
   simp -dsimp (disch := first | assumption | omega | (simp only [Ae]; done) | (simp only [Ae]; omega)) only [↓Ag, Ac, Ah, Ai, eq_self, Nat.reduceEqDiff, ↓reduceIte, Nat.reduceAdd, reduceCtorEq, ↓BK, ho3, hw]
   refine Ap.mono (AAz s3.ok hl) ?_
   rintro v H4 ⟨hf4, c, d, ok, rfl, hc, hd, hcs⟩
   rw [hdrop3] at hcs
   have hlc : ∀ {x : TV}, Anv x → AU x = 2 ∧ lays x = true ∧ CU x = false ∧ Afq x = true ∧ EN x = true := fun {x} hx => by
    rcases hx with rfl | ⟨ls, bs, rfl⟩ <;> exact ⟨rfl, rfl, rfl, rfl, rfl⟩
   rcases hcs with ⟨rfl, a, b', at2, hto, hs4, hka, hkb, rfl, rfl, hla, hlb⟩ | ⟨rfl, hs4, hno⟩
   ·have hto' : Ahn okC rdR most W (B.length + 1) (B.drop 3) l v2 = AgV (rdR a) (rdR b') most W (B.length + 1) ((AC b).drop at2) l := by
     rw [e2, Ahn, hto]
     simp only [hka, hkb, Bool.and_self, if_true]
    have hlen2 := Aiy AjG hto
    have hlen3 : (B.drop 3).length = B.length - 3 := List.length_drop
    simp -dsimp (disch := first | assumption | omega | (simp only [Ae]; done) | (simp only [Ae]; omega)) only [↓Ag, Ac, Ah, Ai, eq_self, Nat.reduceEqDiff, ↓reduceIte, Nat.reduceAdd]
    refine Ap.mono (Awm (ls := a) (bs := (CSt.all a 15).bs) (ld := b') (bd := (CSt.all b' 15).bs) (B.length + 1) hs4.x.app.app.ok (by omega) hl (by rw [CSt.all_len]) hla (by rw [CSt.all_len]) hlb hm (by omega)) ?_
    intro v H5 hp
    have hp' : Yh 0 J (H4 ++ [Ob.obj 0 (Ahe a)] ++ [Ob.obj 0 (Ahe b')]) b most W (AgV (rdR a) (rdR b') most W (B.length + 1) ((AC b).drop at2) l) H5 := hp
    obtain ⟨q', last', hq', rfl, hI'⟩ := fin (hblk _ hto') hp' (plen hp' (by simp))
    have := plen hp' (by simp)
    simp -dsimp (disch := first | assumption | omega | (simp only [Ae]; done) | (simp only [Ae]; omega)) only [↓Ag, Ac, Ah, Ai, eq_self, Nat.reduceEqDiff, ↓reduceIte]
    exact Am q' hq' (by omega) ⟨last', rfl, hI'⟩
   ·have hto' : Ahn okC rdR most W (B.length + 1) (B.drop 3) l v2 = .error 10 := by
     rw [e2, Ahn]
     cases ht : Aee okC rdR (B.drop 3) with
     | none => rfl
     | some p =>
      obtain ⟨a, b', B'⟩ := p
      simp only [hno a b' B' ht]
      rfl
    obtain ⟨a2, o2, e0, he0, ha2, hw2, hob⟩ : ∃ a2 o2 e0, (e0 = 0 ∨ e0 = 10) ∧ a2 ≤ 8 * b.length ∧ AU o2 = 1 ∧ H4[0]? = some (stm b a2 o2 most W e0) := by
     rcases hs4 with ⟨at2, hs4⟩ | ⟨_, a2, o2, q1, q2, q3⟩
     ·exact ⟨at2, o, 0, .inl rfl, hs4.at_, hw, hs4.ob⟩
     ·exact ⟨a2, o2, 10, .inr rfl, q1, q2, q3⟩
    have h4l := (List.getElem?_eq_some_iff.1 hob).1
    have hc' := hc
    have hd' := hd
    have tail : ∀ (G : List Ob), (G = H4 ++ [Ob.obj 0 c] ++ [Ob.obj 0 d]) → ∀ (v : TV) (H5 : List Ob), H5 = G.set 0 (stm b a2 o2 most W (if e0 = 0 then 10 else e0)) → H5[0]? = some (stm b a2 o2 most W 10) ∧ H5[H4.length]? = some (Ob.obj 0 c) ∧ H5[H4.length + 1]? = some (Ob.obj 0 d) ∧ 0 < H5.length := by
     intro G hG v H5 h5
     subst hG; subst h5
     have : (if e0 = 0 then 10 else e0) = 10 := by rcases he0 with rfl | rfl <;> rfl
     rw [this]
     refine ⟨by simp, ?_, ?_, by simp⟩
     ·rw [List.getElem?_set_ne (by omega), List.append_assoc, List.getElem?_append_right (Nat.le_refl _)]; simp
     ·rw [List.getElem?_set_ne (by omega), List.append_assoc, List.getElem?_append_right (by omega)]; simp
    rcases hc with rfl | ⟨lc, bc, rfl⟩ <;> rcases hd with rfl | ⟨ld, bd, rfl⟩
    all_goals
     simp -dsimp (disch := first | assumption | omega | (simp only [Ae]; done) | (simp only [Ae]; omega)) only [↓Ag, Ac, Ah, Ai, eq_self, Nat.reduceEqDiff, ↓reduceIte, Nat.reduceAdd]
     refine Ap.mono (Aeh (e := 10) hw2 (by rw [List.append_assoc, List.getElem?_append_left h4l]; exact hob)) ?_
     intro v H5 hx
     obtain ⟨t1, t2, t3, t4⟩ := tail _ rfl v H5 hx
     simp -dsimp (disch := first | assumption | omega | (simp only [Ae]; done) | (simp only [Ae]; omega)) only [↓Ag, Ac, Ah, Ai, eq_self, Nat.reduceEqDiff, ↓reduceIte, Nat.reduceAdd, t2, t3]
     refine Ap.mono (ABr hw2 (by decide) hc' hd' t1) ?_
     rintro v2' H6 ⟨G6, rfl⟩
     have hp : Yh 0 J H5 b most W (.error 10) (H5 ++ G6) := ⟨⟨by simp, fun i hi _ _ => List.getElem?_append_left hi⟩, by simp, a2, o2, ha2, hw2, by rw [List.getElem?_append_left t4]; exact t1⟩
     obtain ⟨q', last', hq', rfl, hI'⟩ := fin (hblk _ hto') hp (plen hp t4)
     have := plen hp t4
     simp -dsimp (disch := first | assumption | omega | (simp only [Ae]; done) | (simp only [Ae]; omega)) only [↓Ag, Ac, Ah, Ai, eq_self, Nat.reduceEqDiff, ↓reduceIte]
     exact Am q' hq' (by omega) ⟨last', rfl, hI'⟩
  ·rw [e2]
   simp -dsimp (disch := first | assumption | omega | (simp only [Ae]; done) | (simp only [Ae]; omega)) only [↓Ag, Ac, Ah, Ai, eq_self, Nat.reduceEqDiff, ↓reduceIte, Nat.reduceAdd, ↓BK, ho3, hw]
   refine Ap.mono (Aeh (e := 10) hw ho3) ?_
   intro v H4 hx
   rw [if_pos rfl] at hx
   have hp : Yh 0 J H3 b most W (.error 10) H4 := by subst hx; exact ⟨Frm.set.weak, by simp, _, o, s3.at_ rfl, hw, by simp [h3l]⟩
   obtain ⟨q', last', hq', rfl, hI'⟩ := fin (hblk _ (by rw [e2]; rfl)) hp (plen hp (by omega))
   have := plen hp (by omega)
   simp -dsimp (disch := first | assumption | omega | (simp only [Ae]; done) | (simp only [Ae]; omega)) only [↓Ag, Ac, Ah, Ai, eq_self, Nat.reduceEqDiff, ↓reduceIte]
   exact Am q' hq' (by omega) ⟨last', rfl, hI'⟩
end Go.Proofs.YtfgljddikcghhaaDoor


namespace Go.Proofs.YtfgljddikcghhaaDoor
open Go.RowKit
variable [AO]
set_option linter.unusedSectionVars false
set_option linter.unusedVariables false
set_option linter.unusedSimpArgs false

section
omit [AO]
theorem Ajw {T : List (Int × Int)} (h : LG T) {a : Nat} {b : Bool} {v : Int} (hv : -1000000 ≤ v ∧ v < T.length) : LG (Ajv T a b v) := by
 unfold Ajv
 split
 ·rename_i p hp
  intro q hq
  rw [List.length_set]
  rcases List.mem_or_eq_of_mem_set hq with hq | rfl
  ·exact h q hq
  ·have := h p (List.mem_of_getElem? hp)
   cases b
   ·exact ⟨hv, this.2⟩
   ·exact ⟨this.1, hv⟩
 ·exact h
theorem AoG {T : List (Int × Int)} (h : LG T) : LG (T ++ [(0, 0)]) := by
 intro q hq
 rw [List.length_append, List.length_singleton]
 rcases List.mem_append.1 hq with hq | hq
 ·have := h q hq
  push_cast
  omega
 ·rw [List.mem_singleton] at hq
  subst hq
  push_cast
  refine ⟨⟨?_, ?_⟩, ?_, ?_⟩ <;> (try simp only) <;> omega
theorem Agv : ∀ (n : Nat) {T : List (Int × Int)} (a code s : Nat), LG T → 0 < T.length → s ≤ 999000 → LG (AhQ n T a code s) ∧ 0 < (AhQ n T a code s).length
 | 0, T, a, code, s, h, h0, hs => by
  rw [AhQ]
  exact ⟨Ajw h (by omega), by rw [AbS]; exact h0⟩
 | n + 1, T, a, code, s, h, h0, hs => by
  rw [AhQ]
  split
  ·refine Agv n _ _ _ (Ajw (AoG h) ?_) (by rw [AbS, List.length_append]; omega) hs
   rw [List.length_append, List.length_singleton]
   push_cast
   omega
  ·exact Agv n _ _ _ h h0 hs
theorem Ait (ls : List Nat) (hl : ls.length ≤ 1000) : ∀ i, i ≤ ls.length → LG (DU ls i) ∧ 0 < (DU ls i).length
 | 0, _ => by
  refine ⟨fun q hq => ?_, by simp [DU]⟩
  rw [DU, List.mem_singleton] at hq
  subst hq
  simp [DU]
 | i + 1, hi => by
  obtain ⟨h1, h2⟩ := Ait ls hl i (by omega)
  rw [DU]
  split
  ·exact Agv _ _ _ _ h1 h2 (by omega)
  ·exact ⟨h1, h2⟩
end
/-- A tree that reads as the code of these lengths. -/
def ArX (ls : List Nat) (T : List (Int × Int)) : Prop := LG T ∧ 0 < T.length ∧ Zx T 0 = rdR ls
theorem AsD {ls : List Nat} {few non : Bool} (hl : ls.length ≤ 1000) (h15 : ∀ n ∈ ls, n ≤ 15) :
  X9 Tryd.prog 28 [Cc ls, tb few, tb non] (fun x => okC ls few non = true ∧ ∃ T, x = Ael T ∧ ArX ls T) (fun u => okC ls few non = false ∧ u = Amy 10) := by
 refine (ACy hl h15 fun hok => AxL h15 hok).mono ?_ ?_
 ·rintro x ⟨h1, rfl⟩
  obtain ⟨k1, k2⟩ := Ait ls hl ls.length (Nat.le_refl _)
  exact ⟨(Akd ls few non).2 h1, _, rfl, k1, k2, AA2 h15 h1.1⟩
 ·rintro u ⟨h1, rfl⟩
  refine ⟨?_, rfl⟩
  cases h : okC ls few non with
  | false => rfl
  | true => exact absurd ((Akd ls few non).1 h) h1
end Go.Proofs.YtfgljddikcghhaaDoor


namespace Go.Proofs.YtfgljddikcghhaaDoor
open Go.RowKit
variable [AO]
set_option linter.unusedSectionVars false
set_option linter.unusedVariables false
set_option linter.unusedSimpArgs false

abbrev Au4 (l : List Nat) (n : Nat) : Ob := .obj 0 (.arr n 1 (l.map fun (n : Nat) => i64 (n : Int)))
section
omit [AO]
theorem ArH {L : List Nat} {f : Nat → Nat} {i n : Nat} (hi : i < n) : ((List.range i).map f ++ List.replicate (n - i) 0).set i (f i) = (List.range (i + 1)).map f ++ List.replicate (n - (i + 1)) 0 := by
 rw [List.set_append_right _ _ (by simp), List.length_map, List.length_range, Nat.sub_self, show n - i = (n - (i + 1)) + 1 by omega, List.replicate_succ, List.set_cons_zero, List.range_succ, List.map_append, List.append_assoc]
 rfl
theorem Aq7 {f : Nat → Nat} {i n : Nat} (hi : i ≤ n) : ((List.range i).map f ++ List.replicate (n - i) 0).length = n := by simp; omega
theorem Aqt {f : Nat → Nat} {i n : Nat} (hi : i < n) : ((List.range i).map f ++ List.replicate (n - i) 0)[i]? = some 0 := by
 rw [List.getElem?_append_right (by simp), List.length_map, List.length_range, Nat.sub_self, List.getElem?_replicate, if_pos (by omega)]
end
set_option maxRecDepth 100000 in
theorem Aws : D5 Tryd.prog 26 [] (fun x => x = .tup [Cc FZ, Cc PI]) := by
 refine Ap.toPureV (XA (by simp) ?_)
 simp -dsimp (disch := first | assumption | omega) only [↓Ag, Ac, Ah, Ai, eq_self, Nat.reduceEqDiff, Nat.reduceMul, ↓reduceIte, reduceCtorEq, Nat.reduceLeDiff, ↓A8]
 have z : ∀ n : Nat, List.replicate n (TV.val (.int .i64 ((0 : Nat) : Int))) = (List.replicate n 0).map fun (n : Nat) => i64 (n : Int) := fun n => by rw [List.map_replicate]
 rw [z, z]
 refine Bi (fun q e H => ∃ i : Nat, q = 288 - i ∧ i ≤ 288 ∧ e = [(0, .os 1 0 0 [] 0 288 288), (1, .os 1 1 0 [] 0 32 32), (7, i64 ((288 : Nat) : Int)), (8, i64 (i : Int))] ∧ H = [Au4 ((List.range i).map AeC ++ List.replicate (288 - i) 0) 288, Au4 (List.replicate 32 0) 32]) 288 ?_ ?_
 ·exact ⟨0, rfl, by omega, rfl, rfl⟩
 ·rintro q e H ⟨i, rfl, hi, rfl, rfl⟩
  by_cases hlt : i < 288
  ·have h1 := Aqt (f := AeC) hlt
   have h2 := Aq7 (f := AeC) hi
   have h3 := ArH (L := []) (f := AeC) hlt
   generalize hL : (List.range i).map AeC ++ List.replicate (288 - i) 0 = L at *
   have fin : ∀ w : Nat, w = AeC i → (L.map fun (n : Nat) => i64 (n : Int)).set i (i64 (w : Int)) = ((List.range (i + 1)).map AeC ++ List.replicate (288 - (i + 1)) 0).map fun (n : Nat) => i64 (n : Int) := fun w hw => by rw [← h3, List.map_set, hw]
   by_cases c1 : i < 144
   ·have e : 8 = AeC i := by
     have h5 : ¬ (143 < i) := by omega
     have h6 : ¬ (255 < i) := by omega
     simp [AeC, h5, h6]
    simp -dsimp (disch := first | assumption | omega) only [↓Ag, Ac, Ah, Ai, eq_self, Nat.reduceEqDiff, ↓reduceIte, Nat.reduceAdd, reduceCtorEq, ↓A8, h1]
    exact Am (288 - (i + 1)) (by omega) (by simp) ⟨i + 1, rfl, by omega, rfl, by rw [fin 8 e]⟩
   ·by_cases c2 : i < 256
    ·have e : 9 = AeC i := by
      have h5 : 143 < i := by omega
      simp [AeC, h5, c2]
     simp -dsimp (disch := first | assumption | omega) only [↓Ag, Ac, Ah, Ai, eq_self, Nat.reduceEqDiff, ↓reduceIte, Nat.reduceAdd, reduceCtorEq, ↓A8, h1]
     exact Am (288 - (i + 1)) (by omega) (by simp) ⟨i + 1, rfl, by omega, rfl, by rw [fin 9 e]⟩
    ·by_cases c3 : i < 280
     ·have e : 7 = AeC i := by
       have : ¬ (i < 256) := c2
       have h5 : 255 < i := by omega
       simp [AeC, c2, c3, h5]
      simp -dsimp (disch := first | assumption | omega) only [↓Ag, Ac, Ah, Ai, eq_self, Nat.reduceEqDiff, ↓reduceIte, Nat.reduceAdd, reduceCtorEq, ↓A8, h1]
      exact Am (288 - (i + 1)) (by omega) (by simp) ⟨i + 1, rfl, by omega, rfl, by rw [fin 7 e]⟩
     ·have e : 8 = AeC i := by simp [AeC, c2, c3]
      simp -dsimp (disch := first | assumption | omega) only [↓Ag, Ac, Ah, Ai, eq_self, Nat.reduceEqDiff, ↓reduceIte, Nat.reduceAdd, reduceCtorEq, ↓A8, h1]
      exact Am (288 - (i + 1)) (by omega) (by simp) ⟨i + 1, rfl, by omega, rfl, by rw [fin 8 e]⟩
  ·have hie : i = 288 := by omega
   subst hie
   rw [Nat.sub_self, List.replicate_zero, List.append_nil, AsE]
   simp -dsimp (disch := first | assumption | omega) only [↓Ag, Ac, Ah, Ai, eq_self, Nat.reduceLT, Nat.reduceEqDiff, ↓reduceIte, reduceCtorEq, ↓A8]
   refine Bi (fun q e H => ∃ i : Nat, q = 32 - i ∧ i ≤ 32 ∧ e = [(0, .os 1 0 0 [] 0 288 288), (1, .os 1 1 0 [] 0 32 32), (34, i64 ((32 : Nat) : Int)), (35, i64 (i : Int))] ∧ H = [Au4 FZ 288, Au4 ((List.range i).map (fun _ => 5) ++ List.replicate (32 - i) 0) 32]) 32 ?_ ?_
   ·exact ⟨0, rfl, by omega, rfl, rfl⟩
   ·rintro q e H ⟨i, rfl, hi, rfl, rfl⟩
    by_cases hlt : i < 32
    ·have h1 := Aqt (f := fun _ => 5) hlt
     have h2 := Aq7 (f := fun _ => 5) hi
     have h3 := ArH (L := []) (f := fun _ => 5) hlt
     generalize hL : (List.range i).map (fun _ => 5) ++ List.replicate (32 - i) 0 = L at *
     have fin : (L.map fun (n : Nat) => i64 (n : Int)).set i (i64 ((5 : Nat) : Int)) = ((List.range (i + 1)).map (fun _ => 5) ++ List.replicate (32 - (i + 1)) 0).map fun (n : Nat) => i64 (n : Int) := by rw [← h3, List.map_set]
     simp -dsimp (disch := first | assumption | omega) only [↓Ag, Ac, Ah, Ai, eq_self, Nat.reduceEqDiff, ↓reduceIte, Nat.reduceAdd, reduceCtorEq, ↓A8, h1]
     exact Am (32 - (i + 1)) (by omega) (by simp) ⟨i + 1, rfl, by omega, rfl, by rw [fin]⟩
    ·have hie : i = 32 := by omega
     subst hie
     rw [Nat.sub_self, List.replicate_zero, List.append_nil, Asy]
     simp -dsimp (disch := first | assumption | omega) only [↓Ag, Ac, Ah, Ai, eq_self, Nat.reduceLT, Nat.reduceEqDiff, ↓reduceIte, reduceCtorEq, ↓A8]
     refine AmH (by rfl) (by rfl) (by simp [PI]) ?_
     refine AmH (by rfl) (by rfl) (by rw [List.length_map, AeO]; omega) ?_
     have t1 : List.take 32 (List.drop 0 (PI.map fun (n : Nat) => i64 (n : Int))) = PI.map fun (n : Nat) => i64 (n : Int) := by rw [List.drop_zero, List.take_of_length_le (by rw [List.length_map, AhY]; omega)]
     have t2 : List.take 288 (List.drop 0 (FZ.map fun (n : Nat) => i64 (n : Int))) = FZ.map fun (n : Nat) => i64 (n : Int) := by rw [List.drop_zero, List.take_of_length_le (by rw [List.length_map, AeO]; omega)]
     rw [t1, t2]
     simp -dsimp (disch := first | assumption | omega) only [↓Ag, Ac, Ah, Ai, eq_self, Nat.reduceEqDiff, ↓reduceIte, reduceCtorEq, ↓A8]
end Go.Proofs.YtfgljddikcghhaaDoor

