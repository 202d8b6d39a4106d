import Derived.Test.YtfgljddikcghhaaDoorVzPut
namespace Go.Proofs.YtfgljddikcghhaaDoor
open Go.RowKit
variable [Globs]
set_option linter.unusedSectionVars false
set_option linter.unusedVariables false
set_option linter.unusedSimpArgs false

/-- A place of a tree. -/
abbrev plc (p : Int × Int) : TV := .arr 2 1 [i64 p.1, i64 p.2]
/-- A tree that stays as it is. -/
abbrev treeS (T : List (Int × Int)) : TV := .sl 2 (T.map plc)
/-- All ways lead to places, or out. -/
def Closed' (T : List (Int × Int)) : Prop := ∀ p ∈ T, (-1000000 ≤ p.1 ∧ p.1 < T.length) ∧ (-1000000 ≤ p.2 ∧ p.2 < T.length)
/-- A symbol out of the bits: which, what is left. -/
def symT (T : List (Int × Int)) : Nat → List Bool → Option (Nat × List Bool)
 | _, [] => none
 | a, b :: B => match T[a]? with
  | some p => let v := if b then p.2 else p.1
   if v < 0 then some ((-1 - v).toNat, B) else if v = 0 then none else symT T v.toNat B
  | none => none
theorem symbolV {id : Nat} {inn : List UInt8} {held count : Nat} {o m w : TV} {T : List (Int × Int)} {H : List Ob} (h : H[id]? = some (rdr inn held count o m w)) (hT : Closed' T) (hT0 : 0 < T.length) (hi : inn.length ≤ 1000000) (hc : count ≤ 7) (hh : held < 2 ^ count) :
  VCallsP Tryd.prog 48 [.op id 0 [], treeS T] H
  (fun y H' => ∃ s inn' held' count', symT T 0 (restB inn held count) = some (s, restB inn' held' count') ∧ y = i64 (s : Int) ∧ H' = H.set id (rdr inn' held' count' o m w) ∧ inn'.length ≤ inn.length ∧ count' ≤ 7 ∧ held' < 2 ^ count')
  (fun u H' => symT T 0 (restB inn held count) = none ∧ u = zlibE ∧ ∃ y, H' = H.set id (.obj 0 y)) := by
 have hl : id < H.length := (List.getElem?_eq_some_iff.1 h).1
 refine gp_deflate_reader_symbol (by simp) ?_
 simp -dsimp (disch := first | assumption | omega | (simp only [vmLen]; done) | (simp only [vmLen]; omega)) only [↓vmPre, vmPost, vmWrd, vmDat, eq_self, forall_const, Nat.reduceLT, Nat.reduceEqDiff, Nat.reduceSub, Nat.reduceMul, Nat.reduceMod, Nat.reduceDiv, Nat.reducePow, UInt8.reduceToNat, Int.reduceEq, Int.reduceLT, Int.reduceLE, ↓reduceIte, Nat.reduceAdd, Int.reduceToNat, reduceCtorEq, Nat.reduceLeDiff, ↓u_deflate_reader_symbol, h]
 refine w_loop (fun q e H' => ∃ a inn1 held1 count1, q = (restB inn1 held1 count1).length ∧ a < T.length ∧ e = [(0, .op id 0 []), (1, treeS T), (5, i64 (a : Int))] ∧ H' = H.set id (rdr inn1 held1 count1 o m w) ∧ inn1.length ≤ inn.length ∧ count1 ≤ 7 ∧ held1 < 2 ^ count1 ∧ symT T 0 (restB inn held count) = symT T a (restB inn1 held1 count1)) (restB inn held count).length ?_ ?_
 ·exact ⟨0, inn, held, count, rfl, hT0, rfl, (set_same h).symm, Nat.le_refl _, hc, hh, rfl⟩
 ·rintro q e H' ⟨a, inn1, held1, count1, rfl, ha, rfl, rfl, k1, k2, k3, k4⟩
  have h' : (H.set id (rdr inn1 held1 count1 o m w))[id]? = some (rdr inn1 held1 count1 o m w) := by simp [hl]
  simp -dsimp (disch := first | assumption | omega | (simp only [vmLen]; done) | (simp only [vmLen]; omega)) only [↓vmPre, vmPost, vmWrd, vmDat, eq_self, forall_const, Nat.reduceLT, Nat.reduceEqDiff, Nat.reduceSub, Nat.reduceMul, Nat.reduceMod, Nat.reduceDiv, Nat.reducePow, UInt8.reduceToNat, Int.reduceEq, Int.reduceLT, Int.reduceLE, ↓reduceIte, Nat.reduceAdd, Int.reduceToNat, reduceCtorEq, Nat.reduceLeDiff, ↓u_deflate_reader_symbol, h']
  refine (bitsV (n := 1) h' (by omega) (by omega) k2 k3).callsP ?_ ?_
  ·rintro y H' ⟨inn2, held2, count2, q1, rfl, rfl, q2, q3, q4, q5⟩
   obtain ⟨b, B, hB⟩ : ∃ b B, restB inn1 held1 count1 = b :: B := by
    cases hr : restB inn1 held1 count1 with
    | nil => rw [hr] at q1; simp at q1
    | cons b B => exact ⟨b, B, rfl⟩
   obtain ⟨p, hp, hpe⟩ : ∃ p, T[a]? = some p ∧ T[a] = p := ⟨_, List.getElem?_eq_getElem ha, rfl⟩
   rw [hB] at q5 ⊢
   rw [List.drop_succ_cons, List.drop_zero] at q5
   rw [List.set_set]
   have hTp : (T.map plc)[a]? = some (plc p) := by rw [List.getElem?_map, hp]; rfl
   cases b with
   | true =>
    have hv : valN ([true] : List Bool) = 1 := rfl
    simp -dsimp (disch := first | assumption | omega | (simp only [vmLen]; done) | (simp only [vmLen]; omega)) only [↓vmPre, vmPost, vmWrd, vmDat, eq_self, forall_const, Nat.reduceLT, Nat.reduceEqDiff, Nat.reduceSub, Nat.reduceMul, Nat.reduceMod, Nat.reduceDiv, Nat.reducePow, UInt8.reduceToNat, Int.reduceEq, Int.reduceLT, Int.reduceLE, ↓reduceIte, Nat.reduceAdd, Int.reduceToNat, reduceCtorEq, Nat.reduceLeDiff, ↓u_deflate_reader_symbol, h', hp, hpe, hv]
    obtain ⟨g1, g2⟩ := (hT p (List.mem_of_getElem? hp)).2
    have hst : symT T a (true :: B) = (if p.2 < 0 then some ((-1 - p.2).toNat, B) else if p.2 = 0 then none else symT T p.2.toNat B) := by rw [symT, hp]; rfl
    by_cases c1 : p.2 < 0
    ·rw [if_pos c1] at hst
     simp -dsimp (disch := first | assumption | omega | (simp only [vmLen]; done) | (simp only [vmLen]; omega)) only [↓vmPre, vmPost, vmWrd, vmDat, eq_self, forall_const, Nat.reduceLT, Nat.reduceEqDiff, Nat.reduceSub, Nat.reduceMul, Nat.reduceMod, Nat.reduceDiv, Nat.reducePow, UInt8.reduceToNat, Int.reduceEq, Int.reduceLT, Int.reduceLE, ↓reduceIte, Nat.reduceAdd, Int.reduceToNat, reduceCtorEq, Nat.reduceLeDiff, ↓u_deflate_reader_symbol]
     exact ⟨(-1 - p.2).toNat, inn2, held2, count2, by rw [k4, hB, hst, q5], by rw [Int.toNat_of_nonneg (by omega)], rfl, by omega, q3, q4⟩
    rw [if_neg c1] at hst
    by_cases c2 : p.2 = 0
    ·rw [if_pos c2] at hst
     simp -dsimp (disch := first | assumption | omega | (simp only [vmLen]; done) | (simp only [vmLen]; omega)) only [↓vmPre, vmPost, vmWrd, vmDat, eq_self, forall_const, Nat.reduceLT, Nat.reduceEqDiff, Nat.reduceSub, Nat.reduceMul, Nat.reduceMod, Nat.reduceDiv, Nat.reducePow, UInt8.reduceToNat, Int.reduceEq, Int.reduceLT, Int.reduceLE, ↓reduceIte, Nat.reduceAdd, Int.reduceToNat, reduceCtorEq, Nat.reduceLeDiff, ↓u_deflate_reader_symbol, c2]
     exact ⟨by rw [k4, hB, hst], rfl, _, rfl⟩
    rw [if_neg c2] at hst
    obtain ⟨n, hn⟩ : ∃ n : Nat, p.2 = (n : Int) := ⟨p.2.toNat, by omega⟩
    rw [hn] at hst g2 ⊢
    rw [Int.toNat_natCast] at hst
    simp -dsimp (disch := first | assumption | omega | (simp only [vmLen]; done) | (simp only [vmLen]; omega)) only [↓vmPre, vmPost, vmWrd, vmDat, eq_self, forall_const, Nat.reduceLT, Nat.reduceEqDiff, Nat.reduceSub, Nat.reduceMul, Nat.reduceMod, Nat.reduceDiv, Nat.reducePow, UInt8.reduceToNat, Int.reduceEq, Int.reduceLT, Int.reduceLE, ↓reduceIte, Nat.reduceAdd, Int.reduceToNat, reduceCtorEq, Nat.reduceLeDiff, ↓u_deflate_reader_symbol]
    exact Rnd_keep (restB inn2 held2 count2).length (by rw [q5]; omega) (by simp) ⟨n, inn2, held2, count2, rfl, by omega, rfl, rfl, by omega, q3, q4, by rw [k4, hB, hst, q5]⟩
   | false =>
    have hv : valN ([false] : List Bool) = 0 := rfl
    simp -dsimp (disch := first | assumption | omega | (simp only [vmLen]; done) | (simp only [vmLen]; omega)) only [↓vmPre, vmPost, vmWrd, vmDat, eq_self, forall_const, Nat.reduceLT, Nat.reduceEqDiff, Nat.reduceSub, Nat.reduceMul, Nat.reduceMod, Nat.reduceDiv, Nat.reducePow, UInt8.reduceToNat, Int.reduceEq, Int.reduceLT, Int.reduceLE, ↓reduceIte, Nat.reduceAdd, Int.reduceToNat, reduceCtorEq, Nat.reduceLeDiff, ↓u_deflate_reader_symbol, h', hp, hpe, hv]
    obtain ⟨g1, g2⟩ := (hT p (List.mem_of_getElem? hp)).1
    have hst : symT T a (false :: B) = (if p.1 < 0 then some ((-1 - p.1).toNat, B) else if p.1 = 0 then none else symT T p.1.toNat B) := by rw [symT, hp]; rfl
    by_cases c1 : p.1 < 0
    ·rw [if_pos c1] at hst
     simp -dsimp (disch := first | assumption | omega | (simp only [vmLen]; done) | (simp only [vmLen]; omega)) only [↓vmPre, vmPost, vmWrd, vmDat, eq_self, forall_const, Nat.reduceLT, Nat.reduceEqDiff, Nat.reduceSub, Nat.reduceMul, Nat.reduceMod, Nat.reduceDiv, Nat.reducePow, UInt8.reduceToNat, Int.reduceEq, Int.reduceLT, Int.reduceLE, ↓reduceIte, Nat.reduceAdd, Int.reduceToNat, reduceCtorEq, Nat.reduceLeDiff, ↓u_deflate_reader_symbol]
     exact ⟨(-1 - p.1).toNat, inn2, held2, count2, by rw [k4, hB, hst, q5], by rw [Int.toNat_of_nonneg (by omega)], rfl, by omega, q3, q4⟩
    rw [if_neg c1] at hst
    by_cases c2 : p.1 = 0
    ·rw [if_pos c2] at hst
     simp -dsimp (disch := first | assumption | omega | (simp only [vmLen]; done) | (simp only [vmLen]; omega)) only [↓vmPre, vmPost, vmWrd, vmDat, eq_self, forall_const, Nat.reduceLT, Nat.reduceEqDiff, Nat.reduceSub, Nat.reduceMul, Nat.reduceMod, Nat.reduceDiv, Nat.reducePow, UInt8.reduceToNat, Int.reduceEq, Int.reduceLT, Int.reduceLE, ↓reduceIte, Nat.reduceAdd, Int.reduceToNat, reduceCtorEq, Nat.reduceLeDiff, ↓u_deflate_reader_symbol, c2]
     exact ⟨by rw [k4, hB, hst], rfl, _, rfl⟩
    rw [if_neg c2] at hst
    obtain ⟨n, hn⟩ : ∃ n : Nat, p.1 = (n : Int) := ⟨p.1.toNat, by omega⟩
    rw [hn] at hst g2 ⊢
    rw [Int.toNat_natCast] at hst
    simp -dsimp (disch := first | assumption | omega | (simp only [vmLen]; done) | (simp only [vmLen]; omega)) only [↓vmPre, vmPost, vmWrd, vmDat, eq_self, forall_const, Nat.reduceLT, Nat.reduceEqDiff, Nat.reduceSub, Nat.reduceMul, Nat.reduceMod, Nat.reduceDiv, Nat.reducePow, UInt8.reduceToNat, Int.reduceEq, Int.reduceLT, Int.reduceLE, ↓reduceIte, Nat.reduceAdd, Int.reduceToNat, reduceCtorEq, Nat.reduceLeDiff, ↓u_deflate_reader_symbol]
    exact Rnd_keep (restB inn2 held2 count2).length (by rw [q5]; omega) (by simp) ⟨n, inn2, held2, count2, rfl, by omega, rfl, rfl, by omega, q3, q4, by rw [k4, hB, hst, q5]⟩
  ·rintro u H' ⟨q1, rfl, y, rfl⟩
   have hB : restB inn1 held1 count1 = [] := List.length_eq_zero_iff.1 (by omega)
   simp -dsimp (disch := first | assumption | omega | (simp only [vmLen]; done) | (simp only [vmLen]; omega)) only [↓vmPre, vmPost, vmWrd, vmDat, eq_self, forall_const, Nat.reduceLT, Nat.reduceEqDiff, Nat.reduceSub, Nat.reduceMul, Nat.reduceMod, Nat.reduceDiv, Nat.reducePow, UInt8.reduceToNat, Int.reduceEq, Int.reduceLT, Int.reduceLE, ↓reduceIte, Nat.reduceAdd, Int.reduceToNat, reduceCtorEq, Nat.reduceLeDiff, ↓u_deflate_reader_symbol]
   exact ⟨by rw [k4, hB, symT], _, rfl⟩
end Go.Proofs.YtfgljddikcghhaaDoor

