import Derived.Test.YtfgljddikcghhaaDoorVzSym
import Derived.Test.YtfgljddikcghhaaDoorVzRSyms
import Derived.Test.YtfgljddikcghhaaDoorVzStream
namespace Go.Proofs.YtfgljddikcghhaaDoor
open Go.RowKit
variable [Globs]
set_option linter.unusedSectionVars false
set_option linter.unusedVariables false
set_option linter.unusedSimpArgs false

section
omit [Globs]
def slotT (T : List (Int × Int)) (a : Nat) (b : Bool) : Int := match T[a]? with
 | some p => if b then p.2 else p.1
 | none => 0
def setT (T : List (Int × Int)) (a : Nat) (b : Bool) (v : Int) : List (Int × Int) := match T[a]? with
 | some p => T.set a (if b then (p.1, v) else (v, p.2))
 | none => T
/-- One symbol more: n bits above the last one are still to be gone. -/
def addT : Nat → List (Int × Int) → Nat → Nat → Nat → List (Int × Int)
 | 0, T, a, code, s => setT T a (code % 2 == 1) (-1 - (s : Int))
 | n + 1, T, a, code, s =>
  if slotT T a (code / 2 ^ (n + 1) % 2 == 1) = 0 then addT n (setT (T ++ [(0, 0)]) a (code / 2 ^ (n + 1) % 2 == 1) (T.length : Int)) T.length code s
  else addT n T (slotT T a (code / 2 ^ (n + 1) % 2 == 1)).toNat code s
/-- No symbol stands in the way. -/
def AddOk : Nat → List (Int × Int) → Nat → Nat → Prop
 | 0, T, a, _ => a < T.length
 | n + 1, T, a, code => a < T.length ∧ (if slotT T a (code / 2 ^ (n + 1) % 2 == 1) = 0 then AddOk n (setT (T ++ [(0, 0)]) a (code / 2 ^ (n + 1) % 2 == 1) (T.length : Int)) T.length code
  else 0 < slotT T a (code / 2 ^ (n + 1) % 2 == 1) ∧ AddOk n T (slotT T a (code / 2 ^ (n + 1) % 2 == 1)).toNat code)
theorem setT_len (T : List (Int × Int)) (a : Nat) (b : Bool) (v : Int) : (setT T a b v).length = T.length := by
 unfold setT; split <;> simp
end
theorem addV {it j v n code s : Nat} {T : List (Int × Int)} {H : List Ob} (hit : H[it]? = some (.obj 0 (.os 2 j v [] 0 T.length T.length))) (hj : H[j]? = some (.obj v (.arr T.length 2 (T.map plc)))) (hne : it ≠ j) (hn : n + 1 ≤ 15) (hc : code ≤ 1000000000) (hs : s ≤ 100000) (hT : T.length ≤ 100000) (hok : AddOk n T 0 code) :
  VCalls Tryd.prog 49 [.op it 0 [], i64 (code : Int), i64 ((n + 1 : Nat) : Int), i64 (s : Int)] H
  (fun x H' => ∃ v', H'[it]? = some (.obj 0 (.os 2 j v' [] 0 (addT n T 0 code s).length (addT n T 0 code s).length)) ∧ H'[j]? = some (.obj v' (.arr (addT n T 0 code s).length 2 ((addT n T 0 code s).map plc))) ∧ (∀ i, i < H.length → i ≠ it → i ≠ j → H'[i]? = H[i]?) ∧ H.length ≤ H'.length ∧ (addT n T 0 code s).length ≤ T.length + n) := by
 have hit_l := (List.getElem?_eq_some_iff.1 hit).1
 have hj_l := (List.getElem?_eq_some_iff.1 hj).1
 refine go_deflate_tree_add (by simp) ?_
 simp -dsimp (disch := first | assumption | omega | (simp only [vmLen]; done) | (simp only [vmLen]; omega)) only [↓vmPre, vmPost, vmWrd, vmDat, eq_self, forall_const, Nat.reduceLT, Nat.reduceEqDiff, Nat.reduceSub, Nat.reduceMul, Nat.reduceMod, Nat.reduceDiv, Nat.reducePow, UInt8.reduceToNat, Int.reduceEq, Int.reduceLT, Int.reduceLE, ↓reduceIte, Nat.reduceAdd, Int.reduceToNat, reduceCtorEq, Nat.reduceLeDiff, ↓u_deflate_tree_add]
 rw [hit]
 refine ⟨rfl, ?_⟩
 show vwp Tryd.prog (.loop [0, 1, 2, 3, 8] c_deflate_tree_add_L6) _ _ H
 refine w_loop (fun q e H' => ∃ (T1 : List (Int × Int)) (a v1 : Nat), q ≤ n ∧ e = [(0, .op it 0 []), (1, i64 (code : Int)), (2, i64 (q : Int)), (3, i64 (s : Int)), (8, i64 (a : Int))] ∧ addT n T 0 code s = addT q T1 a code s ∧ AddOk q T1 a code ∧ T1.length + q ≤ T.length + n ∧
  H'[it]? = some (.obj 0 (.os 2 j v1 [] 0 T1.length T1.length)) ∧ H'[j]? = some (.obj v1 (.arr T1.length 2 (T1.map plc))) ∧ (∀ i, i < H.length → i ≠ it → i ≠ j → H'[i]? = H[i]?) ∧ H.length ≤ H'.length) n ?_ ?_
 ·exact ⟨T, 0, v, Nat.le_refl _, rfl, rfl, hok, Nat.le_refl _, hit, hj, fun _ _ _ _ => rfl, Nat.le_refl _⟩
 ·rintro q e H' ⟨T1, a, v1, hq, rfl, hadd, hok1, hlen, h1, h2, h3, h4⟩
  cases q with
  | zero =>
   have ha : a < T1.length := hok1
   obtain ⟨p, hp, hpe⟩ : ∃ p, T1[a]? = some p ∧ T1[a] = p := ⟨_, List.getElem?_eq_getElem ha, rfl⟩
   rw [addT] at hadd
   have hsub : (-1 : Int) - (s : Int) = -1 - (s : Int) := rfl
   have hand : code &&& 1 = code % 2 := Nat.and_one_is_mod code
   rcases Nat.mod_two_eq_zero_or_one code with hb | hb
   ·rw [hb] at hadd hand
    have hset : setT T1 a ((0 : Nat) == 1) (-1 - (s : Int)) = T1.set a (-1 - (s : Int), p.2) := by unfold setT; rw [hp]; rfl
    rw [hset] at hadd
    simp -dsimp (disch := first | assumption | omega | (simp only [vmLen]; done) | (simp only [vmLen]; omega)) only [↓vmPre, vmPost, vmWrd, vmDat, eq_self, forall_const, Nat.reduceLT, Nat.reduceEqDiff, Nat.reduceSub, Nat.reduceMul, Nat.reduceMod, Nat.reduceDiv, Nat.reducePow, UInt8.reduceToNat, Int.reduceEq, Int.reduceLT, Int.reduceLE, ↓reduceIte, Nat.reduceAdd, Int.reduceToNat, reduceCtorEq, Nat.reduceLeDiff, ↓u_deflate_tree_add, h1, h2, hp, hpe, hand]
    rw [hadd]
    exact ⟨v1, by simp, by simp [List.map_set], fun i hi h5 h6 => by rw [List.getElem?_set_ne (Ne.symm h6)]; exact h3 i hi h5 h6, h4, by simp; omega⟩
   ·rw [hb] at hadd hand
    have hset : setT T1 a ((1 : Nat) == 1) (-1 - (s : Int)) = T1.set a (p.1, -1 - (s : Int)) := by unfold setT; rw [hp]; rfl
    rw [hset] at hadd
    simp -dsimp (disch := first | assumption | omega | (simp only [vmLen]; done) | (simp only [vmLen]; omega)) only [↓vmPre, vmPost, vmWrd, vmDat, eq_self, forall_const, Nat.reduceLT, Nat.reduceEqDiff, Nat.reduceSub, Nat.reduceMul, Nat.reduceMod, Nat.reduceDiv, Nat.reducePow, UInt8.reduceToNat, Int.reduceEq, Int.reduceLT, Int.reduceLE, ↓reduceIte, Nat.reduceAdd, Int.reduceToNat, reduceCtorEq, Nat.reduceLeDiff, ↓u_deflate_tree_add, h1, h2, hp, hpe, hand]
    rw [hadd]
    exact ⟨v1, by simp, by simp [List.map_set], fun i hi h5 h6 => by rw [List.getElem?_set_ne (Ne.symm h6)]; exact h3 i hi h5 h6, h4, by simp; omega⟩
  | succ q =>
   rw [addT] at hadd
   rw [AddOk] at hok1
   obtain ⟨ha, hok1⟩ := hok1
   obtain ⟨p, hp, hpe⟩ : ∃ p, T1[a]? = some p ∧ T1[a] = p := ⟨_, List.getElem?_eq_getElem ha, rfl⟩
   have hcle : code / 2 ^ (q + 1) ≤ 1000000000 := Nat.le_trans (Nat.div_le_self _ _) hc
   generalize hcq : code / 2 ^ (q + 1) = cq at *
   have hand : cq &&& 1 = cq % 2 := Nat.and_one_is_mod cq
   rcases Nat.mod_two_eq_zero_or_one cq with hb | hb
   ·rw [hb] at hadd hok1 hand
    have hsl : slotT T1 a ((0 : Nat) == 1) = p.1 := by unfold slotT; rw [hp]; rfl
    rw [hsl] at hadd hok1
    by_cases hp0 : p.1 = 0
    ·rw [if_pos hp0] at hadd hok1
     have hpA : (T1.map plc ++ [TV.arr 2 1 [i64 ((0 : Nat) : Int), i64 ((0 : Nat) : Int)]])[a]? = some (plc p) := by rw [List.getElem?_append_left (by simpa using ha), List.getElem?_map, hp]; rfl
     have hgs : ∀ X : TV, ((T1.map plc ++ [TV.arr 2 1 [i64 ((0 : Nat) : Int), i64 ((0 : Nat) : Int)]]).set a X)[a]? = some X := fun X => by rw [List.getElem?_set_self (by simp; omega)]
     have hlA : (T1.map plc ++ [TV.arr 2 1 [i64 ((0 : Nat) : Int), i64 ((0 : Nat) : Int)]]).length = T1.length + 1 := by simp
     simp -dsimp (disch := first | assumption | omega | (simp only [vmLen]; done) | (simp only [vmLen]; omega)) only [↓vmPre, vmPost, vmWrd, vmDat, eq_self, forall_const, Nat.reduceLT, Nat.reduceEqDiff, Nat.reduceSub, Nat.reduceMul, Nat.reduceMod, Nat.reduceDiv, Nat.reducePow, UInt8.reduceToNat, Int.reduceEq, Int.reduceLT, Int.reduceLE, ↓reduceIte, Nat.reduceAdd, Int.reduceToNat, reduceCtorEq, Nat.reduceLeDiff, ↓u_deflate_tree_add, h1, h2, hp, hpe, hcq, hand, hp0, one_set, take_one', len_one, hpA, hlA, hgs]
     have hset : setT (T1 ++ [(0, 0)]) a ((0 : Nat) == 1) (T1.length : Int) = (T1 ++ [(0, 0)]).set a ((T1.length : Int), p.2) := by
      unfold setT; rw [List.getElem?_append_left ha, hp]; rfl
     rw [hset] at hadd hok1
     have hmap : (T1.map plc ++ [TV.arr 2 1 [i64 ((0 : Nat) : Int), i64 ((0 : Nat) : Int)]]).set a (TV.arr 2 1 [i64 (T1.length : Int), i64 p.2]) = ((T1 ++ [(0, 0)]).set a ((T1.length : Int), p.2)).map plc := by
      rw [List.map_set, List.map_append]; rfl
     rw [hmap]
     have hjl : j < H'.length := (List.getElem?_eq_some_iff.1 h2).1
     have hil : it < H'.length := (List.getElem?_eq_some_iff.1 h1).1
     refine Rnd_keep q (by omega) (by simp; omega) ⟨(T1 ++ [(0, 0)]).set a ((T1.length : Int), p.2), T1.length, v1 + 1, by omega, rfl, hadd, hok1, by simp; omega, ?_, ?_, fun i hi h5 h6 => ?_, by simp; omega⟩
     ·simp [List.getElem?_append, List.getElem?_set, hjl, hil, hne, Ne.symm hne]
     ·simp [List.getElem?_append, List.getElem?_set, hjl, hil, hne, Ne.symm hne]
     ·have : i < H'.length := by omega
      simp [List.getElem?_append, List.getElem?_set, this, Ne.symm h5, Ne.symm h6]
      rw [← List.getElem?_eq_getElem this]
      exact h3 i hi h5 h6
    ·rw [if_neg hp0] at hadd hok1
     obtain ⟨hpos, hok2⟩ := hok1
     obtain ⟨m, hm⟩ : ∃ m : Nat, p.1 = (m : Int) := ⟨p.1.toNat, by omega⟩
     rw [hm, Int.toNat_natCast] at hadd hok2
     have hm0 : ¬ (m = 0) := by omega
     simp -dsimp (disch := first | assumption | omega | (simp only [vmLen]; done) | (simp only [vmLen]; omega)) only [↓vmPre, vmPost, vmWrd, vmDat, eq_self, forall_const, Nat.reduceLT, Nat.reduceEqDiff, Nat.reduceSub, Nat.reduceMul, Nat.reduceMod, Nat.reduceDiv, Nat.reducePow, UInt8.reduceToNat, Int.reduceEq, Int.reduceLT, Int.reduceLE, ↓reduceIte, Nat.reduceAdd, Int.reduceToNat, reduceCtorEq, Nat.reduceLeDiff, ↓u_deflate_tree_add, h1, h2, hp, hpe, hcq, hand, hm]
     exact Rnd_keep q (by omega) h4 ⟨T1, m, v1, by omega, rfl, hadd, hok2, by omega, h1, h2, h3, h4⟩
   ·rw [hb] at hadd hok1 hand
    have hsl : slotT T1 a ((1 : Nat) == 1) = p.2 := by unfold slotT; rw [hp]; rfl
    rw [hsl] at hadd hok1
    by_cases hp0 : p.2 = 0
    ·rw [if_pos hp0] at hadd hok1
     have hpA : (T1.map plc ++ [TV.arr 2 1 [i64 ((0 : Nat) : Int), i64 ((0 : Nat) : Int)]])[a]? = some (plc p) := by rw [List.getElem?_append_left (by simpa using ha), List.getElem?_map, hp]; rfl
     have hgs : ∀ X : TV, ((T1.map plc ++ [TV.arr 2 1 [i64 ((0 : Nat) : Int), i64 ((0 : Nat) : Int)]]).set a X)[a]? = some X := fun X => by rw [List.getElem?_set_self (by simp; omega)]
     have hlA : (T1.map plc ++ [TV.arr 2 1 [i64 ((0 : Nat) : Int), i64 ((0 : Nat) : Int)]]).length = T1.length + 1 := by simp
     simp -dsimp (disch := first | assumption | omega | (simp only [vmLen]; done) | (simp only [vmLen]; omega)) only [↓vmPre, vmPost, vmWrd, vmDat, eq_self, forall_const, Nat.reduceLT, Nat.reduceEqDiff, Nat.reduceSub, Nat.reduceMul, Nat.reduceMod, Nat.reduceDiv, Nat.reducePow, UInt8.reduceToNat, Int.reduceEq, Int.reduceLT, Int.reduceLE, ↓reduceIte, Nat.reduceAdd, Int.reduceToNat, reduceCtorEq, Nat.reduceLeDiff, ↓u_deflate_tree_add, h1, h2, hp, hpe, hcq, hand, hp0, one_set, take_one', len_one, hpA, hlA, hgs]
     have hset : setT (T1 ++ [(0, 0)]) a ((1 : Nat) == 1) (T1.length : Int) = (T1 ++ [(0, 0)]).set a (p.1, (T1.length : Int)) := by
      unfold setT; rw [List.getElem?_append_left ha, hp]; rfl
     rw [hset] at hadd hok1
     have hmap : (T1.map plc ++ [TV.arr 2 1 [i64 ((0 : Nat) : Int), i64 ((0 : Nat) : Int)]]).set a (TV.arr 2 1 [i64 p.1, i64 (T1.length : Int)]) = ((T1 ++ [(0, 0)]).set a (p.1, (T1.length : Int))).map plc := by
      rw [List.map_set, List.map_append]; rfl
     rw [hmap]
     have hjl : j < H'.length := (List.getElem?_eq_some_iff.1 h2).1
     have hil : it < H'.length := (List.getElem?_eq_some_iff.1 h1).1
     refine Rnd_keep q (by omega) (by simp; omega) ⟨(T1 ++ [(0, 0)]).set a (p.1, (T1.length : Int)), T1.length, v1 + 1, by omega, rfl, hadd, hok1, by simp; omega, ?_, ?_, fun i hi h5 h6 => ?_, by simp; omega⟩
     ·simp [List.getElem?_append, List.getElem?_set, hjl, hil, hne, Ne.symm hne]
     ·simp [List.getElem?_append, List.getElem?_set, hjl, hil, hne, Ne.symm hne]
     ·have : i < H'.length := by omega
      simp [List.getElem?_append, List.getElem?_set, this, Ne.symm h5, Ne.symm h6]
      rw [← List.getElem?_eq_getElem this]
      exact h3 i hi h5 h6
    ·rw [if_neg hp0] at hadd hok1
     obtain ⟨hpos, hok2⟩ := hok1
     obtain ⟨m, hm⟩ : ∃ m : Nat, p.2 = (m : Int) := ⟨p.2.toNat, by omega⟩
     rw [hm, Int.toNat_natCast] at hadd hok2
     have hm0 : ¬ (m = 0) := by omega
     simp -dsimp (disch := first | assumption | omega | (simp only [vmLen]; done) | (simp only [vmLen]; omega)) only [↓vmPre, vmPost, vmWrd, vmDat, eq_self, forall_const, Nat.reduceLT, Nat.reduceEqDiff, Nat.reduceSub, Nat.reduceMul, Nat.reduceMod, Nat.reduceDiv, Nat.reducePow, UInt8.reduceToNat, Int.reduceEq, Int.reduceLT, Int.reduceLE, ↓reduceIte, Nat.reduceAdd, Int.reduceToNat, reduceCtorEq, Nat.reduceLeDiff, ↓u_deflate_tree_add, h1, h2, hp, hpe, hcq, hand, hm]
     exact Rnd_keep q (by omega) h4 ⟨T1, m, v1, by omega, rfl, hadd, hok2, by omega, h1, h2, h3, h4⟩
end Go.Proofs.YtfgljddikcghhaaDoor

