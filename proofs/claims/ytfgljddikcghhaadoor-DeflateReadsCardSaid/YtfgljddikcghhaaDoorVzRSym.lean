import Derived.Test.YtfgljddikcghhaaDoorVzStream
namespace Go.Proofs.YtfgljddikcghhaaDoor
open Go.RowKit
variable [Globs]
set_option linter.unusedSectionVars false
set_option linter.unusedVariables false
set_option linter.unusedSimpArgs false

/-- The first symbol of this length with these bits. -/
def findC (ls bs : List Nat) (n v : Nat) : Option Nat := (List.range ls.length).find? fun i => decide (ls[i]? = some n ∧ bs[i]? = some v)
/-- A symbol out of the bits, n of which (the number v) are read already: which, how many bits are read; or none: all bits up to the 15th are read. -/
def symC (ls bs : List Nat) : Nat → Nat → Nat → List Bool → Option (Nat × Nat)
 | 0, _, _, _ => none
 | _ + 1, _, _, [] => none
 | k + 1, n, v, b :: B => match findC ls bs (n + 1) (v * 2 + (if b then 1 else 0)) with
  | some i => some (i, n + 1)
  | none => symC ls bs k (n + 1) (v * 2 + (if b then 1 else 0)) B
abbrev nats (l : List Nat) : TV := .sl 1 (l.map fun (n : Nat) => i64 (n : Int))
theorem rfind {id n v : Nat} {ls bs : List Nat} {H : List Ob} {L : Nat} {Q : VEx → Env → List Ob → Prop} (hlen : ls.length = bs.length) (hl3 : ls.length ≤ 1000) (hL : H[L]? = some (.obj 0 (.agg [nats ls, nats bs]))) (hn : n ≤ 15) (hv : v ≤ 65536)
  (h1 : ∀ i, findC ls bs n v = some i → Q .ret [(4, i64 (i : Int))] H) (h2 : ∀ y, findC ls bs n v = none → Q .nor [(0, .op id 0 []), (3, .op L 0 []), (5, i64 (v : Int)), (6, i64 (n : Int)), (7, i64 (ls.length : Int)), (26, y)] H) :
  vwp Tryd.prog (.loop [0, 3, 5, 6, 7] c_ref1_Stream_symbol_L2) (Blk 2 Q) [(0, .op id 0 []), (3, .op L 0 []), (5, i64 (v : Int)), (6, i64 (n : Int)), (7, i64 ((0 : Nat) : Int))] H := by
 have hLl : L < H.length := (List.getElem?_eq_some_iff.1 hL).1
 refine w_loop (fun q e H' => ∃ i : Nat, q = ls.length - i ∧ i ≤ ls.length ∧ (∀ j, j < i → ¬ (ls[j]? = some n ∧ bs[j]? = some v)) ∧ e = [(0, .op id 0 []), (3, .op L 0 []), (5, i64 (v : Int)), (6, i64 (n : Int)), (7, i64 (i : Int))] ∧ H' = H) ls.length ?_ ?_
 ·exact ⟨0, rfl, by omega, fun j hj => by omega, rfl, rfl⟩
 ·rintro q e H' ⟨i, rfl, hi, hno, rfl, rfl⟩
  by_cases hlt : i < ls.length
  ·obtain ⟨a, ha⟩ : ∃ a, ls[i]? = some a := ⟨_, List.getElem?_eq_getElem hlt⟩
   obtain ⟨b, hb⟩ : ∃ b, bs[i]? = some b := ⟨_, List.getElem?_eq_getElem (by omega)⟩
   by_cases c1 : a = n
   ·by_cases c2 : b = v
    ·subst c1; subst c2
     simp -dsimp (disch := first | assumption | omega | (simp only [vmLen]; done) | (simp only [vmLen]; omega)) only [↓vmPre, vmPost, vmWrd, vmDat, eq_self, forall_const, Nat.reduceLT, Nat.reduceEqDiff, Nat.reduceSub, Nat.reduceMul, Nat.reduceMod, Nat.reduceDiv, Nat.reducePow, UInt8.reduceToNat, Int.reduceEq, Int.reduceLT, Int.reduceLE, ↓reduceIte, Nat.reduceAdd, Int.reduceToNat, reduceCtorEq, Nat.reduceLeDiff, ↓u_ref1_Stream_symbol, hL, ha, hb]
     refine h1 i ?_
     unfold findC
     rw [List.find?_range_eq_some]
     exact ⟨by simp [ha, hb], by simpa using hlt, fun j hj => by rw [Bool.not_eq_true', decide_eq_false_iff_not]; exact hno j hj⟩
    ·simp -dsimp (disch := first | assumption | omega | (simp only [vmLen]; done) | (simp only [vmLen]; omega)) only [↓vmPre, vmPost, vmWrd, vmDat, eq_self, forall_const, Nat.reduceLT, Nat.reduceEqDiff, Nat.reduceSub, Nat.reduceMul, Nat.reduceMod, Nat.reduceDiv, Nat.reducePow, UInt8.reduceToNat, Int.reduceEq, Int.reduceLT, Int.reduceLE, ↓reduceIte, Nat.reduceAdd, Int.reduceToNat, reduceCtorEq, Nat.reduceLeDiff, ↓u_ref1_Stream_symbol, hL, ha, hb]
     refine Rnd_keep (ls.length - (i + 1)) (by omega) (Nat.le_refl _) ⟨i + 1, rfl, by omega, fun j hj => ?_, rfl, rfl⟩
     by_cases e : j = i
     ·subst e; rw [hb]; simp [c2]
     ·exact hno j (by omega)
   ·simp -dsimp (disch := first | assumption | omega | (simp only [vmLen]; done) | (simp only [vmLen]; omega)) only [↓vmPre, vmPost, vmWrd, vmDat, eq_self, forall_const, Nat.reduceLT, Nat.reduceEqDiff, Nat.reduceSub, Nat.reduceMul, Nat.reduceMod, Nat.reduceDiv, Nat.reducePow, UInt8.reduceToNat, Int.reduceEq, Int.reduceLT, Int.reduceLE, ↓reduceIte, Nat.reduceAdd, Int.reduceToNat, reduceCtorEq, Nat.reduceLeDiff, ↓u_ref1_Stream_symbol, hL, ha, hb]
    refine Rnd_keep (ls.length - (i + 1)) (by omega) (Nat.le_refl _) ⟨i + 1, rfl, by omega, fun j hj => ?_, rfl, rfl⟩
    by_cases e : j = i
    ·subst e; rw [ha]; simp [c1]
    ·exact hno j (by omega)
  ·have hik : i = ls.length := by omega
   subst hik
   simp -dsimp (disch := first | assumption | omega | (simp only [vmLen]; done) | (simp only [vmLen]; omega)) only [↓vmPre, vmPost, vmWrd, vmDat, eq_self, forall_const, Nat.reduceLT, Nat.reduceEqDiff, Nat.reduceSub, Nat.reduceMul, Nat.reduceMod, Nat.reduceDiv, Nat.reducePow, UInt8.reduceToNat, Int.reduceEq, Int.reduceLT, Int.reduceLE, ↓reduceIte, Nat.reduceAdd, Int.reduceToNat, reduceCtorEq, Nat.reduceLeDiff, ↓u_ref1_Stream_symbol, hL]
   refine h2 _ ?_
   unfold findC
   rw [List.find?_range_eq_none]
   intro j hj; rw [Bool.not_eq_true', decide_eq_false_iff_not]; exact hno j hj
theorem rsymbolV {id at_ : Nat} {inn : List UInt8} {o : TV} {m f : Int} {ls bs : List Nat} {H : List Ob} (hw : width o = 1) (h : H[id]? = some (stm inn at_ o m f 0)) (hi : inn.length ≤ 1000000) (ha : at_ ≤ 8 * inn.length) (hlen : ls.length = bs.length) (hl3 : ls.length ≤ 1000) :
  VCalls Tryd.prog 55 [.op id 0 [], .agg [nats ls, nats bs]] H
  (fun x H' => match symC ls bs 15 0 0 ((allB inn).drop at_) with
   | some (i, n) => x = i64 (i : Int) ∧ ∀ k, k < H.length → H'[k]? = (H.set id (stm inn (at_ + n) o m f 0))[k]?
   | none => x = i64 (-1) ∧ ∃ a, a ≤ 8 * inn.length ∧ ∀ k, k < H.length → H'[k]? = (H.set id (stm inn a o m f 10))[k]?) := by
 have hid : id < H.length := (List.getElem?_eq_some_iff.1 h).1
 refine go_ref1_Stream_symbol (by simp) ?_
 simp -dsimp (disch := first | assumption | omega | (simp only [vmLen]; done) | (simp only [vmLen]; omega)) only [↓vmPre, vmPost, vmWrd, vmDat, eq_self, forall_const, Nat.reduceLT, Nat.reduceEqDiff, Nat.reduceSub, Nat.reduceMul, Nat.reduceMod, Nat.reduceDiv, Nat.reducePow, UInt8.reduceToNat, Int.reduceEq, Int.reduceLT, Int.reduceLE, ↓reduceIte, Nat.reduceAdd, Int.reduceToNat, reduceCtorEq, Nat.reduceLeDiff, ↓u_ref1_Stream_symbol, h]
 refine w_loop (fun q e H' => ∃ n v : Nat, q = 15 - n ∧ n ≤ 15 ∧ v < 2 ^ n ∧ at_ + n ≤ 8 * inn.length ∧ symC ls bs 15 0 0 ((allB inn).drop at_) = symC ls bs (15 - n) n v ((allB inn).drop (at_ + n)) ∧ e = [(0, .op id 0 []), (3, .op H.length 0 []), (5, i64 (v : Int)), (6, i64 ((n + 1 : Nat) : Int))] ∧ H' = H.set id (stm inn (at_ + n) o m f 0) ++ [.obj 0 (.agg [nats ls, nats bs])]) 15 ?_ ?_
 ·exact ⟨0, 0, rfl, by omega, by omega, by omega, rfl, rfl, by rw [Nat.add_zero, set_same h]⟩
 ·rintro q e H' ⟨n, v, rfl, hn, hv, hat, hs, rfl, rfl⟩
  have h' : (H.set id (stm inn (at_ + n) o m f 0) ++ [.obj 0 (.agg [nats ls, nats bs])])[id]? = some (stm inn (at_ + n) o m f 0) := by rw [List.getElem?_append_left (by simpa using hid)]; simp [hid]
  by_cases hlt : n < 15
  ·have hp : 2 ^ n ≤ 2 ^ 14 := Nat.pow_le_pow_right (by omega) (by omega)
   simp -dsimp (disch := first | assumption | omega | (simp only [vmLen]; done) | (simp only [vmLen]; omega)) only [↓vmPre, vmPost, vmWrd, vmDat, eq_self, forall_const, Nat.reduceLT, Nat.reduceEqDiff, Nat.reduceSub, Nat.reduceMul, Nat.reduceMod, Nat.reduceDiv, Nat.reducePow, UInt8.reduceToNat, Int.reduceEq, Int.reduceLT, Int.reduceLE, ↓reduceIte, Nat.reduceAdd, Int.reduceToNat, reduceCtorEq, Nat.reduceLeDiff, ↓u_ref1_Stream_symbol]
   refine VCalls.mono (sbitsV (n := 1) hw h' (by omega) (by omega) hat) ?_
   intro x H' hx
   by_cases hen : at_ + n + 1 ≤ 8 * inn.length
   ·rw [if_pos hen] at hx
    obtain ⟨rfl, rfl⟩ := hx
    obtain ⟨b, hb⟩ : ∃ b, (allB inn).drop (at_ + n) = b :: (allB inn).drop (at_ + n + 1) := ⟨_, List.drop_eq_getElem_cons (by rw [allB_len]; omega)⟩
    obtain ⟨bv, hbv⟩ : ∃ bv : Nat, (if b then 1 else 0) = bv := ⟨_, rfl⟩
    have hb1 : bv ≤ 1 := by rw [← hbv]; split <;> omega
    have hsym : symC ls bs (15 - n) n v ((allB inn).drop (at_ + n)) = match findC ls bs (n + 1) (v * 2 + bv) with
     | some i => some (i, n + 1)
     | none => symC ls bs (15 - (n + 1)) (n + 1) (v * 2 + bv) ((allB inn).drop (at_ + n + 1)) := by
     rw [hb, show 15 - n = (15 - (n + 1)) + 1 by omega, symC, hbv]
    have hval : valN (((allB inn).drop (at_ + n)).take 1) = bv := by
     rw [hb, List.take_succ_cons, List.take_zero, valN, valN, hbv]; omega
    rw [hval, List.set_append_left _ _ (by simpa using hid), List.set_set]
    have h2 : (H.set id (stm inn (at_ + n + 1) o m f 0) ++ [.obj 0 (.agg [nats ls, nats bs])])[id]? = some (stm inn (at_ + n + 1) o m f 0) := by rw [List.getElem?_append_left (by simpa using hid)]; simp [hid]
    have hLL : (H.set id (stm inn (at_ + n + 1) o m f 0) ++ [.obj 0 (.agg [nats ls, nats bs])])[H.length]? = some (.obj 0 (.agg [nats ls, nats bs])) := by rw [List.getElem?_append_right (by simp)]; simp
    simp -dsimp (disch := first | assumption | omega | (simp only [vmLen]; done) | (simp only [vmLen]; omega)) only [↓vmPre, vmPost, vmWrd, vmDat, eq_self, forall_const, Nat.reduceLT, Nat.reduceEqDiff, Nat.reduceSub, Nat.reduceMul, Nat.reduceMod, Nat.reduceDiv, Nat.reducePow, UInt8.reduceToNat, Int.reduceEq, Int.reduceLT, Int.reduceLE, ↓reduceIte, Nat.reduceAdd, Int.reduceToNat, reduceCtorEq, Nat.reduceLeDiff, ↓u_ref1_Stream_symbol, h2, hw]
    refine rfind (L := H.length) (n := n + 1) (v := v * 2 + bv) hlen hl3 hLL (by omega) (by omega) (fun i hfi => ?_) fun y hfn => ?_
    ·simp -dsimp (disch := first | assumption | omega | (simp only [vmLen]; done) | (simp only [vmLen]; omega)) only [↓vmPre, vmPost, vmWrd, vmDat, eq_self, forall_const, Nat.reduceLT, Nat.reduceEqDiff, Nat.reduceSub, Nat.reduceMul, Nat.reduceMod, Nat.reduceDiv, Nat.reducePow, UInt8.reduceToNat, Int.reduceEq, Int.reduceLT, Int.reduceLE, ↓reduceIte, Nat.reduceAdd, Int.reduceToNat, reduceCtorEq, Nat.reduceLeDiff, ↓u_ref1_Stream_symbol]
     rw [hfi] at hsym
     rw [hs, hsym]
     exact ⟨rfl, fun k hk => by rw [List.getElem?_append_left (by simpa using hk)]; rfl⟩
    ·simp -dsimp (disch := first | assumption | omega | (simp only [vmLen]; done) | (simp only [vmLen]; omega)) only [↓vmPre, vmPost, vmWrd, vmDat, eq_self, forall_const, Nat.reduceLT, Nat.reduceEqDiff, Nat.reduceSub, Nat.reduceMul, Nat.reduceMod, Nat.reduceDiv, Nat.reducePow, UInt8.reduceToNat, Int.reduceEq, Int.reduceLT, Int.reduceLE, ↓reduceIte, Nat.reduceAdd, Int.reduceToNat, reduceCtorEq, Nat.reduceLeDiff, ↓u_ref1_Stream_symbol]
     rw [hfn] at hsym
     refine Rnd_keep (15 - (n + 1)) (by omega) (by simp) ⟨n + 1, v * 2 + bv, rfl, by omega, by rw [Nat.pow_succ]; omega, by omega, by rw [hs, hsym]; rfl, rfl, rfl⟩
   ·rw [if_neg hen] at hx
    obtain ⟨rfl, rfl⟩ := hx
    rw [if_pos rfl, List.set_append_left _ _ (by simpa using hid), List.set_set]
    have h2 : (H.set id (stm inn (8 * inn.length) o m f 10) ++ [.obj 0 (.agg [nats ls, nats bs])])[id]? = some (stm inn (8 * inn.length) o m f 10) := by rw [List.getElem?_append_left (by simpa using hid)]; simp [hid]
    have hnil : (allB inn).drop (at_ + n) = [] := List.drop_eq_nil_of_le (by rw [allB_len]; omega)
    rw [hs, hnil, show 15 - n = (15 - (n + 1)) + 1 by omega, symC]
    simp -dsimp (disch := first | assumption | omega | (simp only [vmLen]; done) | (simp only [vmLen]; omega)) only [↓vmPre, vmPost, vmWrd, vmDat, eq_self, forall_const, Nat.reduceLT, Nat.reduceEqDiff, Nat.reduceSub, Nat.reduceMul, Nat.reduceMod, Nat.reduceDiv, Nat.reducePow, UInt8.reduceToNat, Int.reduceEq, Int.reduceLT, Int.reduceLE, ↓reduceIte, Nat.reduceAdd, Int.reduceToNat, reduceCtorEq, Nat.reduceLeDiff, ↓u_ref1_Stream_symbol, h2, hw]
    exact ⟨8 * inn.length, Nat.le_refl _, fun k hk => by rw [List.getElem?_append_left (by simpa using hk)]⟩
  ·have hn15 : n = 15 := by omega
   subst hn15
   simp -dsimp (disch := first | assumption | omega | (simp only [vmLen]; done) | (simp only [vmLen]; omega)) only [↓vmPre, vmPost, vmWrd, vmDat, eq_self, forall_const, Nat.reduceLT, Nat.reduceEqDiff, Nat.reduceSub, Nat.reduceMul, Nat.reduceMod, Nat.reduceDiv, Nat.reducePow, UInt8.reduceToNat, Int.reduceEq, Int.reduceLT, Int.reduceLE, ↓reduceIte, Nat.reduceAdd, Int.reduceToNat, reduceCtorEq, Nat.reduceLeDiff, ↓u_ref1_Stream_symbol]
   refine VCalls.mono (failV (e := 10) hw h') ?_
   intro x H' hx
   rw [if_pos rfl] at hx
   subst hx
   rw [List.set_append_left _ _ (by simpa using hid), List.set_set]
   rw [Nat.sub_self] at hs
   rw [hs, symC]
   simp -dsimp (disch := first | assumption | omega | (simp only [vmLen]; done) | (simp only [vmLen]; omega)) only [↓vmPre, vmPost, vmWrd, vmDat, eq_self, forall_const, Nat.reduceLT, Nat.reduceEqDiff, Nat.reduceSub, Nat.reduceMul, Nat.reduceMod, Nat.reduceDiv, Nat.reducePow, UInt8.reduceToNat, Int.reduceEq, Int.reduceLT, Int.reduceLE, ↓reduceIte, Nat.reduceAdd, Int.reduceToNat, reduceCtorEq, Nat.reduceLeDiff, ↓u_ref1_Stream_symbol]
   exact ⟨at_ + 15, hat, fun k hk => by rw [List.getElem?_append_left (by simpa using hk)]⟩
end Go.Proofs.YtfgljddikcghhaaDoor

