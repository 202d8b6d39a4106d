/- GraphBasesCard: the law, proved out of contracts of the functions that it reaches (texts merged; names shortened by a program). No condition is laid on it. -/
import Derived.Test.YtingoaihnlhiaaaDoorQE
import Derived.Shelf.SlSortCmp.NoneTotal
import Derived.Ground.SlsfProg
import Derived.Test.YtingoaihnlhiaaaDoorProg
import Derived.WalkKit
import Derived.Deep.RegionWith
import Derived.Lib.BytesEntry
import Derived.Lib.Bytealg
import Derived.Shelf.Bytes.SlIndexAt
import Derived.Test.YtingoaihnlhiaaaDoorQD
import Derived.LaidEql
import Derived.Stop.Asserts
import Derived.RowKitTokens
import Derived.KernelRfl
import Derived.SevenTiedAt
import Derived.Test.YtingoaihnlhiaaaDoorCards
import Derived.Test.YtingoaihnlhiaaaDoorTie
import Derived.Test.YtingoaihnlhiaaaDoorRows
import Derived.ProofKit
import Derived.OpenShut
import Derived.ShutString
import Derived.ChangeOld
import Derived.Below
import Derived.SizedLaws
import Derived.ChangeVars
import Derived.LaidLaws
import Derived.LaidHandle
import Derived.Stop.Joined
import Derived.ClosedOfChecked
namespace Go.Proofs.YtingoaihnlhiaaaDoor
open Go.RowKit
variable [AtT]
set_option linter.unusedSectionVars false
set_option linter.unusedVariables false
set_option linter.unusedSimpArgs false

theorem APA (l : List Nd) (hl : l.length ≤ 1000) (hp : ∀ n ∈ l, n.ps.length ≤ 1000) (h20 : ∀ x ∈ As8 l, x.length = 20) (a b : List UInt8) : Avh Tryd.prog 16 [.sl 22 (l.map ndT), idT a, idT b] (fun r =>
  (AAy l [a, b] → ∃ s, r = .tup [.sl 20 ((AEN l s).map idT), i64 ((0 : Nat) : Int)] ∧ SD s ∧ ∀ x, x ∈ s ↔ x ∈ As8 l ∧ Rc l [a] x ∧ Rc l [b] x) ∧ (¬ AAy l [a, b] → r = .tup [.val (.slice none 0 0), i64 ((80 : Nat) : Int)])) := by
 refine As1.toPureV (AJv (by simp) ?_)
 simp -dsimp (disch := first | assumption | omega | (simp only [AsP]; done) | (simp only [AsP]; omega)) only [↓AsR, AsO, AsT, AsU, eq_self, forall_const, Nat.reduceLT, Nat.reduceEqDiff, Nat.reduceSub, Nat.reduceMul, Nat.reduceMod, Nat.reduceDiv, Nat.reducePow, UInt8.reduceToNat, Int.reduceEq, Int.reduceLT, Int.reduceLE, ↓reduceIte, Nat.reduceAdd, Int.reduceToNat, reduceCtorEq, Nat.reduceLeDiff, ↓Atp, As9]
 refine (AP6 l hl hp).calls rfl fun r hr => ?_
 subst hr
 by_cases hok : GOk l
 case neg =>
  rw [AFP hok]
  have hno : ¬ AAy l [a, b] := fun h => hok h.1
  simp -dsimp (disch := first | assumption | omega | (simp only [AsP]; done) | (simp only [AsP]; omega)) only [↓AsR, AsO, AsT, AsU, eq_self, forall_const, Nat.reduceLT, Nat.reduceEqDiff, Nat.reduceSub, Nat.reduceMul, Nat.reduceMod, Nat.reduceDiv, Nat.reducePow, UInt8.reduceToNat, Int.reduceEq, Int.reduceLT, Int.reduceLE, ↓reduceIte, Nat.reduceAdd, Int.reduceToNat, reduceCtorEq, Nat.reduceLeDiff, ↓Atp, As9]
  exact ⟨fun h => absurd h hno, fun _ => trivial⟩
 rw [AJu hok]
 simp -dsimp (disch := first | assumption | omega | (simp only [AsP]; done) | (simp only [AsP]; omega)) only [↓AsR, AsO, AsT, AsU, eq_self, forall_const, Nat.reduceLT, Nat.reduceEqDiff, Nat.reduceSub, Nat.reduceMul, Nat.reduceMod, Nat.reduceDiv, Nat.reducePow, UInt8.reduceToNat, Int.reduceEq, Int.reduceLT, Int.reduceLE, ↓reduceIte, Nat.reduceAdd, Int.reduceToNat, reduceCtorEq, Nat.reduceLeDiff, ↓Atp, As9]
 refine (AG4 l a (by omega)).calls rfl fun r hr => ?_
 subst hr
 by_cases ha : a ∈ As8 l
 case neg =>
  have hno : ¬ AAy l [a, b] := fun h => ha (Aut.1 (List.all_eq_true.1 h.2 a (by simp)))
  rw [AGS ha]
  simp -dsimp (disch := first | assumption | omega | (simp only [AsP]; done) | (simp only [AsP]; omega)) only [↓AsR, AsO, AsT, AsU, eq_self, forall_const, Nat.reduceLT, Nat.reduceEqDiff, Nat.reduceSub, Nat.reduceMul, Nat.reduceMod, Nat.reduceDiv, Nat.reducePow, UInt8.reduceToNat, Int.reduceEq, Int.reduceLT, Int.reduceLE, ↓reduceIte, Nat.reduceAdd, Int.reduceToNat, reduceCtorEq, Nat.reduceLeDiff, ↓Atp, As9]
  exact ⟨fun h => absurd h hno, fun _ => trivial⟩
 obtain ⟨i, hi, hfi, hid⟩ := ABF ha
 rw [hfi]
 simp -dsimp (disch := first | assumption | omega | (simp only [AsP]; done) | (simp only [AsP]; omega)) only [↓AsR, AsO, AsT, AsU, eq_self, forall_const, Nat.reduceLT, Nat.reduceEqDiff, Nat.reduceSub, Nat.reduceMul, Nat.reduceMod, Nat.reduceDiv, Nat.reducePow, UInt8.reduceToNat, Int.reduceEq, Int.reduceLT, Int.reduceLE, ↓reduceIte, Nat.reduceAdd, Int.reduceToNat, reduceCtorEq, Nat.reduceLeDiff, ↓Atp, As9]
 refine (AG4 l b (by omega)).calls rfl fun r hr => ?_
 subst hr
 by_cases hb : b ∈ As8 l
 case neg =>
  have hno : ¬ AAy l [a, b] := fun h => hb (Aut.1 (List.all_eq_true.1 h.2 b (by simp)))
  rw [AGS hb]
  simp -dsimp (disch := first | assumption | omega | (simp only [AsP]; done) | (simp only [AsP]; omega)) only [↓AsR, AsO, AsT, AsU, eq_self, forall_const, Nat.reduceLT, Nat.reduceEqDiff, Nat.reduceSub, Nat.reduceMul, Nat.reduceMod, Nat.reduceDiv, Nat.reducePow, UInt8.reduceToNat, Int.reduceEq, Int.reduceLT, Int.reduceLE, ↓reduceIte, Nat.reduceAdd, Int.reduceToNat, reduceCtorEq, Nat.reduceLeDiff, ↓Atp, As9]
  exact ⟨fun h => absurd h hno, fun _ => trivial⟩
 obtain ⟨j, hj, hfj, hjd⟩ := ABF hb
 rw [hfj]
 have hyes : AAy l [a, b] := ⟨hok, List.all_eq_true.2 fun x hx => by
  rcases List.mem_cons.1 hx with rfl | hx
  ·exact Aut.2 ha
  ·rw [List.mem_singleton] at hx; subst hx; exact Aut.2 hb⟩
 simp -dsimp (disch := first | assumption | omega | (simp only [AsP]; done) | (simp only [AsP]; omega)) only [↓AsR, AsO, AsT, AsU, eq_self, forall_const, Nat.reduceLT, Nat.reduceEqDiff, Nat.reduceSub, Nat.reduceMul, Nat.reduceMod, Nat.reduceDiv, Nat.reducePow, UInt8.reduceToNat, Int.reduceEq, Int.reduceLT, Int.reduceLE, ↓reduceIte, Nat.reduceAdd, Int.reduceToNat, reduceCtorEq, Nat.reduceLeDiff, ↓Atp, As9]
 refine AHk (by rfl) (by rfl) (by simp) ?_
 simp -dsimp (disch := first | assumption | omega | (simp only [AsP]; done) | (simp only [AsP]; omega)) only [↓AsR, AsO, AsT, AsU, eq_self, forall_const, Nat.reduceLT, Nat.reduceEqDiff, Nat.reduceSub, Nat.reduceMul, Nat.reduceMod, Nat.reduceDiv, Nat.reducePow, UInt8.reduceToNat, Int.reduceEq, Int.reduceLT, Int.reduceLE, ↓reduceIte, Nat.reduceAdd, Int.reduceToNat, reduceCtorEq, Nat.reduceLeDiff, ↓Atp, AKN]
 refine (show Avh _ _ [.sl 22 (l.map ndT), .sl 20 ([a].map idT)] _ from AJC l [a] hok.1 hl (fun x hx => by rw [List.mem_singleton] at hx; subst hx; exact ha) (fun n hn => Nat.le_trans (hp n hn) (by omega)) (by simp)).calls rfl fun r hr => ?_
 subst hr
 simp -dsimp (disch := first | assumption | omega | (simp only [AsP]; done) | (simp only [AsP]; omega)) only [↓AsR, AsO, AsT, AsU, eq_self, forall_const, Nat.reduceLT, Nat.reduceEqDiff, Nat.reduceSub, Nat.reduceMul, Nat.reduceMod, Nat.reduceDiv, Nat.reducePow, UInt8.reduceToNat, Int.reduceEq, Int.reduceLT, Int.reduceLE, ↓reduceIte, Nat.reduceAdd, Int.reduceToNat, reduceCtorEq, Nat.reduceLeDiff, ↓Atp, As9]
 refine AHk (by rfl) (by rfl) (by simp) ?_
 simp -dsimp (disch := first | assumption | omega | (simp only [AsP]; done) | (simp only [AsP]; omega)) only [↓AsR, AsO, AsT, AsU, eq_self, forall_const, Nat.reduceLT, Nat.reduceEqDiff, Nat.reduceSub, Nat.reduceMul, Nat.reduceMod, Nat.reduceDiv, Nat.reducePow, UInt8.reduceToNat, Int.reduceEq, Int.reduceLT, Int.reduceLE, ↓reduceIte, Nat.reduceAdd, Int.reduceToNat, reduceCtorEq, Nat.reduceLeDiff, ↓Atp, AKN]
 refine (show Avh _ _ [.sl 22 (l.map ndT), .sl 20 ([b].map idT)] _ from AJC l [b] hok.1 hl (fun x hx => by rw [List.mem_singleton] at hx; subst hx; exact hb) (fun n hn => Nat.le_trans (hp n hn) (by omega)) (by simp)).calls rfl fun r hr => ?_
 subst hr
 simp -dsimp (disch := first | assumption | omega | (simp only [AsP]; done) | (simp only [AsP]; omega)) only [↓AsR, AsO, AsT, AsU, eq_self, forall_const, Nat.reduceLT, Nat.reduceEqDiff, Nat.reduceSub, Nat.reduceMul, Nat.reduceMod, Nat.reduceDiv, Nat.reducePow, UInt8.reduceToNat, Int.reduceEq, Int.reduceLT, Int.reduceLE, ↓reduceIte, Nat.reduceAdd, Int.reduceToNat, reduceCtorEq, Nat.reduceLeDiff, ↓Atp, As9]
 refine At5 (fun q e H => ∃ (i v cp : Nat) (out : List (List UInt8)) (T : List Ob), q = l.length - i ∧ i ≤ l.length ∧ out = (As8 (l.take i)).filter (fun x => dec (Rc l [a] x) && dec (Rc l [b] x)) ∧ out.length ≤ cp ∧
  e = [(0, .sl 22 (l.map ndT)), (9, .sl 1 ((AuX l [a]).map tb)), (10, .sl 1 ((AuX l [b]).map tb)), (11, .os 20 4 v [] 0 out.length cp), (12, i64 (i : Int))] ∧
  H = .obj 0 (.arr 20 1 (a.map by8)) :: .obj 0 (.arr 20 1 (b.map by8)) :: .gone 0 :: .gone 0 :: .obj v (.arr out.length 20 (out.map idT)) :: T) l.length ?_ ?_
 ·exact ⟨0, 0, 0, [], [], by simp, by simp, by simp [As8], by simp, by simp [forget, get], rfl⟩
 ·rintro q e H ⟨i, v, cp, out, T, rfl, hi, hout, hcp, rfl, rfl⟩
  have hol : out.length ≤ i := by
   rw [hout]; exact Nat.le_trans (List.length_filter_le _ _) (by simp [As8]; omega)
  by_cases h : i < l.length
  ·have hg : l[i]? = some l[i] := List.getElem?_eq_getElem h
   have hsucc := List.take_succ_eq_append_getElem h
   have hA := AGV (l := l) (S := [a]) h
   have hB := AGV (l := l) (S := [b]) h
   generalize l[i] = n at *
   have htk : (out.map idT).take out.length = out.map idT := AuG rfl
   have hxt : idT n.id = .arr 20 1 (n.id.map by8) := As9
   have hfil : (As8 (l.take (i + 1))).filter (fun x => dec (Rc l [a] x) && dec (Rc l [b] x)) = out ++ if dec (Rc l [a] n.id) && dec (Rc l [b] n.id) then [n.id] else [] := by
    rw [hsucc, hout]
    simp only [As8, List.map_append, List.filter_append, List.map_cons, List.map_nil]
    congr 1
    by_cases hc : (dec (Rc l [a] n.id) && dec (Rc l [b] n.id)) = true
    ·rw [if_pos hc, List.filter_cons_of_pos (p := fun x => dec (Rc l [a] x) && dec (Rc l [b] x)) hc, List.filter_nil]
    ·rw [if_neg hc, List.filter_cons_of_neg (p := fun x => dec (Rc l [a] x) && dec (Rc l [b] x)) hc, List.filter_nil]
   cases hda : dec (Rc l [a] n.id) <;> cases hdb : dec (Rc l [b] n.id)
   all_goals rw [hda] at hA hfil
   all_goals rw [hdb] at hB hfil
   all_goals simp only [Bool.and_self, Bool.and_true, Bool.and_false, Bool.false_and, Bool.true_and, if_true, if_false, Bool.false_eq_true, List.append_nil] at hfil
   ·simp -dsimp (disch := first | assumption | omega | (simp only [AsP]; done) | (simp only [AsP]; omega)) only [↓AsR, AsO, AsT, AsU, eq_self, forall_const, Nat.reduceLT, Nat.reduceEqDiff, Nat.reduceSub, Nat.reduceMul, Nat.reduceMod, Nat.reduceDiv, Nat.reducePow, UInt8.reduceToNat, Int.reduceEq, Int.reduceLT, Int.reduceLE, ↓reduceIte, Nat.reduceAdd, Int.reduceToNat, reduceCtorEq, Nat.reduceLeDiff, ↓Atp, hg, hA, hB, AtA]
    exact Atd (l.length - (i + 1)) (by omega) (by simp) ⟨i + 1, v, cp, out, _, rfl, by omega, hfil.symm, hcp, by simp [forget, get], rfl⟩
   ·simp -dsimp (disch := first | assumption | omega | (simp only [AsP]; done) | (simp only [AsP]; omega)) only [↓AsR, AsO, AsT, AsU, eq_self, forall_const, Nat.reduceLT, Nat.reduceEqDiff, Nat.reduceSub, Nat.reduceMul, Nat.reduceMod, Nat.reduceDiv, Nat.reducePow, UInt8.reduceToNat, Int.reduceEq, Int.reduceLT, Int.reduceLE, ↓reduceIte, Nat.reduceAdd, Int.reduceToNat, reduceCtorEq, Nat.reduceLeDiff, ↓Atp, hg, hA, hB, AtA]
    exact Atd (l.length - (i + 1)) (by omega) (by simp) ⟨i + 1, v, cp, out, _, rfl, by omega, hfil.symm, hcp, by simp [forget, get], rfl⟩
   ·simp -dsimp (disch := first | assumption | omega | (simp only [AsP]; done) | (simp only [AsP]; omega)) only [↓AsR, AsO, AsT, AsU, eq_self, forall_const, Nat.reduceLT, Nat.reduceEqDiff, Nat.reduceSub, Nat.reduceMul, Nat.reduceMod, Nat.reduceDiv, Nat.reducePow, UInt8.reduceToNat, Int.reduceEq, Int.reduceLT, Int.reduceLE, ↓reduceIte, Nat.reduceAdd, Int.reduceToNat, reduceCtorEq, Nat.reduceLeDiff, ↓Atp, hg, hA, hB, AtA]
    exact Atd (l.length - (i + 1)) (by omega) (by simp) ⟨i + 1, v, cp, out, _, rfl, by omega, hfil.symm, hcp, by simp [forget, get], rfl⟩
   ·simp -dsimp (disch := first | assumption | omega | (simp only [AsP]; done) | (simp only [AsP]; omega)) only [↓AsR, AsO, AsT, AsU, eq_self, forall_const, Nat.reduceLT, Nat.reduceEqDiff, Nat.reduceSub, Nat.reduceMul, Nat.reduceMod, Nat.reduceDiv, Nat.reducePow, UInt8.reduceToNat, Int.reduceEq, Int.reduceLT, Int.reduceLE, ↓reduceIte, Nat.reduceAdd, Int.reduceToNat, reduceCtorEq, Nat.reduceLeDiff, ↓Atp, hg, hA, hB, AtA, AxS, Aw3, htk]
    exact Atd (l.length - (i + 1)) (by omega) (by simp) ⟨i + 1, v + 1, _, out ++ [n.id], _, rfl, by omega, hfil.symm, Nat.le_refl _, by simp [forget, get], by simp [hxt]; rfl⟩
  ·have hi2 : i = l.length := by omega
   subst hi2
   rw [List.take_length] at hout
   have htk : (out.map idT).take out.length = out.map idT := AuG rfl
   have hmo : ∀ x, x ∈ out ↔ x ∈ As8 l ∧ Rc l [a] x ∧ Rc l [b] x := fun x => by
    rw [hout, List.mem_filter, Bool.and_eq_true]
    have e : ∀ p : Prop, dec p = true ↔ p := fun p => by unfold dec; simp
    rw [e, e]
   have hko : AAy l out := ⟨hok, List.all_eq_true.2 fun x hx => Aut.2 ((hmo x).1 hx).1⟩
   simp -dsimp (disch := first | assumption | omega | (simp only [AsP]; done) | (simp only [AsP]; omega)) only [↓AsR, AsO, AsT, AsU, eq_self, forall_const, Nat.reduceLT, Nat.reduceEqDiff, Nat.reduceSub, Nat.reduceMul, Nat.reduceMod, Nat.reduceDiv, Nat.reducePow, UInt8.reduceToNat, Int.reduceEq, Int.reduceLT, Int.reduceLE, ↓reduceIte, Nat.reduceAdd, Int.reduceToNat, reduceCtorEq, Nat.reduceLeDiff, ↓Atp]
   refine AHk (by rfl) (by rfl) (by simp) ?_
   simp -dsimp (disch := first | assumption | omega | (simp only [AsP]; done) | (simp only [AsP]; omega)) only [↓AsR, AsO, AsT, AsU, eq_self, forall_const, Nat.reduceLT, Nat.reduceEqDiff, Nat.reduceSub, Nat.reduceMul, Nat.reduceMod, Nat.reduceDiv, Nat.reducePow, UInt8.reduceToNat, Int.reduceEq, Int.reduceLT, Int.reduceLE, ↓reduceIte, Nat.reduceAdd, Int.reduceToNat, reduceCtorEq, Nat.reduceLeDiff, ↓Atp, AKN, htk]
   refine (AJc l hl hp out (by omega) (fun x hx => h20 x ((hmo x).1 hx).1)).calls rfl fun r hr => ?_
   obtain ⟨s, rfl, hsd, hms⟩ := hr.1 hko
   simp -dsimp (disch := first | assumption | omega | (simp only [AsP]; done) | (simp only [AsP]; omega)) only [↓AsR, AsO, AsT, AsU, eq_self, forall_const, Nat.reduceLT, Nat.reduceEqDiff, Nat.reduceSub, Nat.reduceMul, Nat.reduceMod, Nat.reduceDiv, Nat.reducePow, UInt8.reduceToNat, Int.reduceEq, Int.reduceLT, Int.reduceLE, ↓reduceIte, Nat.reduceAdd, Int.reduceToNat, reduceCtorEq, Nat.reduceLeDiff, ↓Atp]
   exact ⟨fun _ => ⟨s, rfl, hsd, fun x => (hms x).trans (hmo x)⟩, fun h => absurd hyes h⟩
end Go.Proofs.YtingoaihnlhiaaaDoor


namespace Go.Proofs.YtingoaihnlhiaaaDoor
open Go.RowKit
variable [AtT]
set_option linter.unusedSectionVars false
set_option linter.unusedVariables false
set_option linter.unusedSimpArgs false

theorem AXt (A : List (List UInt8)) (hA : A.length ≤ 100000) : Avh Tryd.prog 11 [.sl 20 (A.map idT), .sl 20 (A.map idT)] (fun r => r = tb true) := by
 refine As1.toPureV (AFV (by simp) ?_)
 simp -dsimp (disch := first | assumption | omega | (simp only [AsP]; done) | (simp only [AsP]; omega)) only [↓AsR, AsO, AsT, AsU, eq_self, forall_const, Nat.reduceLT, Nat.reduceEqDiff, Nat.reduceSub, Nat.reduceMul, Nat.reduceMod, Nat.reduceDiv, Nat.reducePow, UInt8.reduceToNat, Int.reduceEq, Int.reduceLT, Int.reduceLE, ↓reduceIte, Nat.reduceAdd, Int.reduceToNat, reduceCtorEq, Nat.reduceLeDiff, ↓AxN]
 refine At5 (fun q e H => ∃ i : Nat, q = A.length - i ∧ i ≤ A.length ∧ e = [(0, .sl 20 (A.map idT)), (1, .sl 20 (A.map idT)), (5, i64 (i : Int))] ∧ H = []) A.length ?_ ?_
 ·exact ⟨0, by simp, by simp, by simp [forget, get], rfl⟩
 ·rintro q e H ⟨i, rfl, hi, rfl, rfl⟩
  by_cases h : i < A.length
  ·have hg : A[i]? = some A[i] := List.getElem?_eq_getElem h
   generalize A[i] = x at *
   have hb : (x == x) = true := by simp
   simp -dsimp (disch := first | assumption | omega | (simp only [AsP]; done) | (simp only [AsP]; omega)) only [↓AsR, AsO, AsT, AsU, eq_self, forall_const, Nat.reduceLT, Nat.reduceEqDiff, Nat.reduceSub, Nat.reduceMul, Nat.reduceMod, Nat.reduceDiv, Nat.reducePow, UInt8.reduceToNat, Int.reduceEq, Int.reduceLT, Int.reduceLE, ↓reduceIte, Nat.reduceAdd, Int.reduceToNat, reduceCtorEq, Nat.reduceLeDiff, ↓AxN, hg, As9, hb]
   exact Atd (A.length - (i + 1)) (by omega) (by simp) ⟨i + 1, rfl, by omega, by simp [forget, get], rfl⟩
  ·have hi2 : i = A.length := by omega
   subst hi2
   simp -dsimp (disch := first | assumption | omega | (simp only [AsP]; done) | (simp only [AsP]; omega)) only [↓AsR, AsO, AsT, AsU, eq_self, forall_const, Nat.reduceLT, Nat.reduceEqDiff, Nat.reduceSub, Nat.reduceMul, Nat.reduceMod, Nat.reduceDiv, Nat.reducePow, UInt8.reduceToNat, Int.reduceEq, Int.reduceLT, Int.reduceLE, ↓reduceIte, Nat.reduceAdd, Int.reduceToNat, reduceCtorEq, Nat.reduceLeDiff, ↓AxN]
theorem AXb : Avh Tryd.prog 11 [.val (.slice none 0 0), .val (.slice none 0 0)] (fun r => r = tb true) := by
 refine As1.toPureV (AFV (by simp) ?_)
 simp -dsimp (disch := first | assumption | omega | (simp only [AsP]; done) | (simp only [AsP]; omega)) only [↓AsR, AsO, AsT, AsU, eq_self, forall_const, Nat.reduceLT, Nat.reduceEqDiff, Nat.reduceSub, Nat.reduceMul, Nat.reduceMod, Nat.reduceDiv, Nat.reducePow, UInt8.reduceToNat, Int.reduceEq, Int.reduceLT, Int.reduceLE, ↓reduceIte, Nat.reduceAdd, Int.reduceToNat, reduceCtorEq, Nat.reduceLeDiff, ↓AxN]
 refine At5 (fun q e H => e = [(0, .val (.slice none 0 0)), (1, .val (.slice none 0 0)), (5, i64 ((0 : Nat) : Int))] ∧ H = []) 0 ?_ ?_
 ·exact ⟨by simp [forget, get], rfl⟩
 ·rintro q e H ⟨rfl, rfl⟩
  simp -dsimp (disch := first | assumption | omega | (simp only [AsP]; done) | (simp only [AsP]; omega)) only [↓AsR, AsO, AsT, AsU, eq_self, forall_const, Nat.reduceLT, Nat.reduceEqDiff, Nat.reduceSub, Nat.reduceMul, Nat.reduceMod, Nat.reduceDiv, Nat.reducePow, UInt8.reduceToNat, Int.reduceEq, Int.reduceLT, Int.reduceLE, ↓reduceIte, Nat.reduceAdd, Int.reduceToNat, reduceCtorEq, Nat.reduceLeDiff, ↓AxN]
end Go.Proofs.YtingoaihnlhiaaaDoor


namespace Go.Proofs.YtingoaihnlhiaaaDoor
open Go.RowKit
variable [AtT]
set_option linter.unusedSectionVars false
set_option linter.unusedVariables false
set_option linter.unusedSimpArgs false

/-- slices.IndexFunc of a row of one's own. -/
theorem ANx {ids : List (List UInt8)} {id ver N cp : Nat} {cs : List TV} (hcs : ∀ (i : Nat) x, ids[i]? = some x → cs[i]? = some (idT x)) (hlen : ids.length ≤ 100000) {p : List UInt8 → Bool} {H : List Ob} (hid : H[id]? = some (.obj ver (.arr N 20 cs))) {g : FuncId} {a caps : List TV} (hgo : AEh Tryd.prog g = true) (hp : ∀ x ∈ ids, ∀ T K, (∀ T', K (tb (p x)) (H ++ T ++ T')) → As1 Tryd.prog g (a ++ [idT x] ++ caps) (H ++ T) K) {K : TV → List Ob → Prop}
  (hK : ∀ T, K (i64 (if ids.any p then ((ids.findIdx p : Nat) : Int) else -1)) (H ++ T)) : As1 Tryd.prog 58 [.os 20 id ver [] 0 ids.length cp, .fn (.func g) a caps] H K := by
 have hil := Atm hid
 refine AtU (by simp) ?_
 simp -dsimp (disch := first | assumption | omega) only [↓AsR, AsO, AsT, AsU, eq_self, forall_const, Nat.reduceLT, Nat.reduceEqDiff, Nat.reduceSub, Nat.reduceMul, Nat.reduceMod, Nat.reduceDiv, Nat.reducePow, UInt8.reduceToNat, Int.reduceEq, Int.reduceLT, Int.reduceLE, ↓reduceIte, Nat.reduceAdd, Int.reduceToNat, reduceCtorEq, Nat.reduceLeDiff, ↓AsW]
 refine At5 (fun q e H' => ∃ (i : Nat) (T : List Ob), q = ids.length - i ∧ i ≤ ids.length ∧ (∀ x ∈ ids.take i, p x = false) ∧ e = [(0, .os 20 id ver [] 0 ids.length cp), (1, .fn (.func g) a caps), (7, i64 (ids.length : Int)), (8, i64 (i : Int))] ∧ H' = H ++ T) ids.length ?_ ?_
 ·exact ⟨0, [], by simp, by simp, by simp, rfl, by simp⟩
 ·rintro q e H' ⟨i, T, rfl, hi, hno, rfl, rfl⟩
  by_cases h : i < ids.length
  ·have hg : ids[i]? = some ids[i] := List.getElem?_eq_getElem h
   have hsucc := List.take_succ_eq_append_getElem h
   have hpx := hp ids[i] (List.getElem_mem h) T
   generalize ids[i] = x at *
   have hg2 : cs[i]? = some (idT x) := hcs _ _ hg
   rw [As9] at hg2
   simp -dsimp (disch := first | assumption | omega | (simp only [AsP]; done) | (simp only [AsP]; omega)) only [↓AsR, AsO, AsT, AsU, eq_self, forall_const, Nat.reduceLT, Nat.reduceEqDiff, Nat.reduceSub, Nat.reduceMul, Nat.reduceMod, Nat.reduceDiv, Nat.reducePow, UInt8.reduceToNat, Int.reduceEq, Int.reduceLT, Int.reduceLE, ↓reduceIte, Nat.reduceAdd, Int.reduceToNat, reduceCtorEq, Nat.reduceLeDiff, ↓AsW, hid, hg2, hgo, As9]
   refine Aw2 (hpx _ fun T' => ?_)
   by_cases hpt : p x = true
   ·rw [hpt]
    simp -dsimp (disch := first | assumption | omega | (simp only [AsP]; done) | (simp only [AsP]; omega)) only [↓AsR, AsO, AsT, AsU, eq_self, forall_const, Nat.reduceLT, Nat.reduceEqDiff, Nat.reduceSub, Nat.reduceMul, Nat.reduceMod, Nat.reduceDiv, Nat.reducePow, UInt8.reduceToNat, Int.reduceEq, Int.reduceLT, Int.reduceLE, ↓reduceIte, Nat.reduceAdd, Int.reduceToNat, reduceCtorEq, Nat.reduceLeDiff, ↓AsW]
    obtain ⟨e1, e2⟩ := AIe hg hno hpt
    rw [if_pos e2, e1] at hK
    simp only [List.append_assoc]
    exact hK _
   ·have hpf : p x = false := by simpa using hpt
    rw [hpf]
    simp -dsimp (disch := first | assumption | omega | (simp only [AsP]; done) | (simp only [AsP]; omega)) only [↓AsR, AsO, AsT, AsU, eq_self, forall_const, Nat.reduceLT, Nat.reduceEqDiff, Nat.reduceSub, Nat.reduceMul, Nat.reduceMod, Nat.reduceDiv, Nat.reducePow, UInt8.reduceToNat, Int.reduceEq, Int.reduceLT, Int.reduceLE, ↓reduceIte, Nat.reduceAdd, Int.reduceToNat, reduceCtorEq, Nat.reduceLeDiff, ↓AsW]
    refine Atd (ids.length - (i + 1)) (by omega) (by simp) ⟨i + 1, T ++ T', rfl, by omega, fun y hy => ?_, by simp [forget, get], by simp⟩
    rw [hsucc, List.mem_append, List.mem_singleton] at hy
    rcases hy with hy | rfl
    ·exact hno y hy
    ·exact hpf
  ·have hi2 : i = ids.length := by omega
   subst hi2
   rw [List.take_length] at hno
   simp -dsimp (disch := first | assumption | omega | (simp only [AsP]; done) | (simp only [AsP]; omega)) only [↓AsR, AsO, AsT, AsU, eq_self, forall_const, Nat.reduceLT, Nat.reduceEqDiff, Nat.reduceSub, Nat.reduceMul, Nat.reduceMod, Nat.reduceDiv, Nat.reducePow, UInt8.reduceToNat, Int.reduceEq, Int.reduceLT, Int.reduceLE, ↓reduceIte, Nat.reduceAdd, Int.reduceToNat, reduceCtorEq, Nat.reduceLeDiff, ↓AsW]
   have hany : ¬ ids.any p = true := by
    rw [List.any_eq_true]
    rintro ⟨y, hy, h⟩
    rw [hno y hy] at h; cases h
   rw [if_neg hany] at hK
   exact hK _
end Go.Proofs.YtingoaihnlhiaaaDoor


namespace Go.Proofs.YtingoaihnlhiaaaDoor
open Go.RowKit
variable [AtT]
set_option linter.unusedSectionVars false
set_option linter.unusedVariables false
set_option linter.unusedSimpArgs false

theorem ALE : ∀ (l : List (List UInt8)) (y x : List UInt8), dd (l ++ [y] ++ [x]) = if y = x then dd (l ++ [y]) else dd (l ++ [y]) ++ [x]
 | [], y, x => by
  simp only [List.nil_append, List.cons_append, dd]
  split
  ·rename_i h; rw [h]
  ·rfl
 | [a], y, x => by
  have ih := ALE [] y x
  simp only [List.nil_append, List.cons_append] at ih ⊢
  rw [dd, ih, dd]
  by_cases h : y = x <;> by_cases h2 : a = y <;> simp [h, h2, dd]
 | a :: b :: l, y, x => by
  have ih := ALE (b :: l) y x
  simp only [List.cons_append] at ih ⊢
  rw [dd, ih, dd]
  by_cases h : y = x <;> by_cases h2 : a = b <;> simp [h, h2]
theorem AO1 {d : List (List UInt8)} {q : Nat} {y x : List UInt8} (hy : d[q]? = some y) (hx : d[q + 1]? = some x) : dd (d.take (q + 2)) = if y = x then dd (d.take (q + 1)) else dd (d.take (q + 1)) ++ [x] := by
 obtain ⟨h1, rfl⟩ := List.getElem?_eq_some_iff.1 hy
 obtain ⟨h2, rfl⟩ := List.getElem?_eq_some_iff.1 hx
 rw [List.take_succ_eq_append_getElem h2, List.take_succ_eq_append_getElem h1]
 exact ALE _ _ _
theorem ABL {α : Type} {H : List α} {i : Nat} {o : α} (h : H[i]? = some o) : H.set i o = H := by
 obtain ⟨h1, rfl⟩ := List.getElem?_eq_some_iff.1 h
 exact List.set_getElem_self h1
theorem AC1 {α : Type} (cs : List α) (m : Nat) (v : α) (h : m < cs.length) : (cs.set m v).take (m + 1) = cs.take m ++ [v] := by
 rw [List.take_succ_eq_append_getElem (by simpa using h)]
 simp [List.take_set_of_le]
theorem ASp {d : List (List UInt8)} (hlen : d.length ≤ 100000) {id ver cp : Nat} (hcp : d.length ≤ cp) {H : List Ob} (hid : H[id]? = some (.obj ver (.arr d.length 20 (d.map idT)))) {K : TV → List Ob → Prop}
  (hK : ∀ cs, cs.length = d.length → cs.take (dd d).length = (dd d).map idT → (∀ c ∈ cs, As7 c = 20) → K (.os 20 id ver [] 0 (dd d).length cp) (H.set id (.obj ver (.arr d.length 20 cs)))) : As1 Tryd.prog 48 [.os 20 id ver [] 0 d.length cp] H K := by
 have hil := Atm hid
 have same : dd d = d → K (.os 20 id ver [] 0 d.length cp) H := fun e => by
  have := hK (d.map idT) (by simp) (by rw [e, List.take_of_length_le (by simp)]) (fun c hc => by obtain ⟨x, _, rfl⟩ := List.mem_map.1 hc; exact Ata)
  rwa [e, ABL hid] at this
 refine Au2 (by simp) ?_
 by_cases h2 : d.length < 2
 ·simp -dsimp (disch := first | assumption | omega | (simp only [AsP]; done) | (simp only [AsP]; omega)) only [↓AsR, AsO, AsT, AsU, eq_self, forall_const, Nat.reduceLT, Nat.reduceEqDiff, Nat.reduceSub, Nat.reduceMul, Nat.reduceMod, Nat.reduceDiv, Nat.reducePow, UInt8.reduceToNat, Int.reduceEq, Int.reduceLT, Int.reduceLE, ↓reduceIte, Nat.reduceAdd, Int.reduceToNat, reduceCtorEq, Nat.reduceLeDiff, ↓As4]
  refine same ?_
  rcases d with _ | ⟨a, _ | ⟨b, l⟩⟩
  ·rfl
  ·rfl
  ·simp only [List.length_cons] at h2; omega
 ·simp -dsimp (disch := first | assumption | omega | (simp only [AsP]; done) | (simp only [AsP]; omega)) only [↓AsR, AsO, AsT, AsU, eq_self, forall_const, Nat.reduceLT, Nat.reduceEqDiff, Nat.reduceSub, Nat.reduceMul, Nat.reduceMod, Nat.reduceDiv, Nat.reducePow, UInt8.reduceToNat, Int.reduceEq, Int.reduceLT, Int.reduceLE, ↓reduceIte, Nat.reduceAdd, Int.reduceToNat, reduceCtorEq, Nat.reduceLeDiff, ↓As4]
  refine At5 (fun q e H' => ∃ k : Nat, q = d.length - (k + 1) ∧ k + 1 ≤ d.length ∧ dd (d.take (k + 1)) = d.take (k + 1) ∧ e = [(0, .os 20 id ver [] 0 d.length cp), (3, i64 ((k + 1 : Nat) : Int))] ∧ H = H') (d.length - 1) ?_ ?_
  ·refine ⟨0, by omega, by omega, ?_, rfl, rfl⟩
   rcases d with _ | ⟨a, l⟩
   ·rfl
   ·simp [dd]
  ·rintro q e H' ⟨k, rfl, hk, hdk, rfl, rfl⟩
   by_cases h3 : k + 1 < d.length
   ·have hy : d[k]? = some d[k] := List.getElem?_eq_getElem (by omega)
    have hx : d[k + 1]? = some d[k + 1] := List.getElem?_eq_getElem h3
    have hnx := AO1 hy hx
    have hsucc := List.take_succ_eq_append_getElem h3
    generalize d[k] = y at *
    generalize d[k + 1] = x at *
    have hgy : (d.map idT)[k]? = some (.arr 20 1 (y.map by8)) := by rw [List.getElem?_map, hy, ← As9]; rfl
    have hgx : (d.map idT)[k + 1]? = some (.arr 20 1 (x.map by8)) := by rw [List.getElem?_map, hx, ← As9]; rfl
    by_cases hxy : x = y
    ·subst hxy
     have hb : (x == x) = true := by simp
     rw [if_pos rfl] at hnx
     simp -dsimp (disch := first | assumption | omega | (simp only [AsP]; done) | (simp only [AsP]; omega)) only [↓AsR, AsO, AsT, AsU, eq_self, forall_const, Nat.reduceLT, Nat.reduceEqDiff, Nat.reduceSub, Nat.reduceMul, Nat.reduceMod, Nat.reduceDiv, Nat.reducePow, UInt8.reduceToNat, Int.reduceEq, Int.reduceLT, Int.reduceLE, ↓reduceIte, Nat.reduceAdd, Int.reduceToNat, reduceCtorEq, Nat.reduceLeDiff, ↓As4, hid, hgy, hgx, hb]
     refine At5 (fun q e H' => ∃ (r m : Nat) (cs : List TV), q = d.length - (k + 1 + r) ∧ k + 2 + r ≤ d.length ∧ m = (dd (d.take (k + 2 + r))).length ∧ m ≤ k + 1 + r ∧ cs.length = d.length ∧ cs.take m = (dd (d.take (k + 2 + r))).map idT ∧ (∀ j, k + 1 + r ≤ j → cs[j]? = (d.map idT)[j]?) ∧ (∀ c ∈ cs, As7 c = 20) ∧
      e = [(0, .os 20 id ver [] 0 d.length cp), (3, i64 (m : Int)), (4, .os 20 id ver [] (k + 1) (d.length - (k + 1)) (cp - (k + 1))), (5, i64 ((r + 1 : Nat) : Int))] ∧ H' = H.set id (.obj ver (.arr d.length 20 cs))) (d.length - (k + 1)) ?_ ?_
     ·refine ⟨0, k + 1, d.map idT, by omega, by omega, ?_, by omega, by simp, ?_, fun j hj => rfl, fun c hc => by obtain ⟨x, _, rfl⟩ := List.mem_map.1 hc; exact Ata, rfl, by rw [ABL hid]⟩
      ·rw [Nat.add_zero, hnx, hdk, List.length_take]; omega
      ·rw [Nat.add_zero, hnx, hdk, ← List.map_take]
     ·rintro q e H' ⟨r, m, cs, rfl, hr, hm, hmr, hcl, hct, hco, hcw0, rfl, rfl⟩
      by_cases h4 : k + 2 + r < d.length
      ·have gy : d[k + 1 + r]? = some d[k + 1 + r] := List.getElem?_eq_getElem (by omega)
       have gx : d[k + 1 + r + 1]? = some d[k + 1 + r + 1] := List.getElem?_eq_getElem (by omega)
       have gnx := AO1 gy gx
       generalize d[k + 1 + r] = y' at *
       generalize d[k + 1 + r + 1] = x' at *
       have e1 : k + 1 + r + 2 = k + 2 + (r + 1) := by omega
       have e2 : k + 1 + r + 1 = k + 2 + r := by omega
       rw [e1, e2] at gnx
       have cy : cs[k + 1 + r]? = some (.arr 20 1 (y'.map by8)) := by rw [hco _ (Nat.le_refl _), List.getElem?_map, gy, ← As9]; rfl
       have cx : cs[k + 1 + (r + 1)]? = some (.arr 20 1 (x'.map by8)) := by rw [hco _ (by omega), List.getElem?_map, ← Nat.add_assoc, gx, ← As9]; rfl
       by_cases hxy2 : x' = y'
       ·subst hxy2
        have hb2 : (x' == x') = true := by simp
        rw [if_pos rfl] at gnx
        simp -dsimp (disch := first | assumption | omega | (simp only [AsP]; done) | (simp only [AsP]; omega)) only [↓AsR, AsO, AsT, AsU, eq_self, forall_const, Nat.reduceLT, Nat.reduceEqDiff, Nat.reduceSub, Nat.reduceMul, Nat.reduceMod, Nat.reduceDiv, Nat.reducePow, UInt8.reduceToNat, Int.reduceEq, Int.reduceLT, Int.reduceLE, ↓reduceIte, Nat.reduceAdd, Int.reduceToNat, reduceCtorEq, Nat.reduceLeDiff, ↓As4, cy, cx, hb2]
        exact Atd (d.length - (k + 1 + (r + 1))) (by omega) (by simp) ⟨r + 1, m, cs, rfl, by omega, by rw [gnx]; exact hm, by omega, hcl, by rw [gnx]; exact hct, fun j hj => (hco j (by omega)).trans (by simp), hcw0, by simp [forget, get], rfl⟩
       ·have hb2 : (x' == y') = false := by simpa using hxy2
        rw [if_neg (fun e => hxy2 e.symm)] at gnx
        obtain ⟨c, hcm, hcw⟩ : ∃ c, cs[m]? = some c ∧ As7 c = 20 := ⟨cs[m], List.getElem?_eq_getElem (by omega), hcw0 _ (List.getElem_mem _)⟩
        simp -dsimp (disch := first | assumption | omega | (simp only [AsP]; done) | (simp only [AsP]; omega)) only [↓AsR, AsO, AsT, AsU, eq_self, forall_const, Nat.reduceLT, Nat.reduceEqDiff, Nat.reduceSub, Nat.reduceMul, Nat.reduceMod, Nat.reduceDiv, Nat.reducePow, UInt8.reduceToNat, Int.reduceEq, Int.reduceLT, Int.reduceLE, ↓reduceIte, Nat.reduceAdd, Int.reduceToNat, reduceCtorEq, Nat.reduceLeDiff, ↓As4, cy, cx, hb2, hcm, hcw]
        refine Atd (d.length - (k + 1 + (r + 1))) (by omega) (by simp) ⟨r + 1, m + 1, cs.set m (idT x'), rfl, by omega, by rw [gnx, List.length_append, ← hm]; rfl, by omega, by simp [hcl], ?_, fun j hj => ?_, fun c hc => (List.mem_or_eq_of_mem_set hc).elim (hcw0 c) fun e => by rw [e]; exact Ata, by simp [forget, get], by rw [As9]⟩
        ·rw [gnx, List.map_append, ← hct, List.map_cons, List.map_nil]
         exact AC1 _ _ _ (by omega)
        ·rw [List.getElem?_set_ne (by omega)]; exact (hco j (by omega)).trans (by simp)
      ·have hr2 : k + 2 + r = d.length := by omega
       rw [hr2, List.take_length] at hm hct
       have hml : m ≤ cs.length := by omega
       simp -dsimp (disch := first | assumption | omega | (simp only [AsP]; done) | (simp only [AsP]; omega)) only [↓AsR, AsO, AsT, AsU, eq_self, forall_const, Nat.reduceLT, Nat.reduceEqDiff, Nat.reduceSub, Nat.reduceMul, Nat.reduceMod, Nat.reduceDiv, Nat.reducePow, UInt8.reduceToNat, Int.reduceEq, Int.reduceLT, Int.reduceLE, ↓reduceIte, Nat.reduceAdd, Int.reduceToNat, reduceCtorEq, Nat.reduceLeDiff, ↓As4, hcl]
       subst hm
       rw [← hcl] at hK ⊢
       refine hK _ ?_ ?_ fun c hc => ?_
       ·simp; omega
       ·rw [List.take_append_of_le_length (by simp; omega), List.take_take, Nat.min_self, hct]
       ·simp only [List.mem_append] at hc
        rcases hc with hc | hc | hc
        ·exact hcw0 c (List.mem_of_mem_take hc)
        ·rw [List.eq_of_mem_replicate (List.mem_of_mem_take hc)]; rfl
        ·exact hcw0 c (List.mem_of_mem_drop hc)
    ·have hb : (x == y) = false := by simpa using hxy
     rw [if_neg (fun e => hxy e.symm)] at hnx
     simp -dsimp (disch := first | assumption | omega | (simp only [AsP]; done) | (simp only [AsP]; omega)) only [↓AsR, AsO, AsT, AsU, eq_self, forall_const, Nat.reduceLT, Nat.reduceEqDiff, Nat.reduceSub, Nat.reduceMul, Nat.reduceMod, Nat.reduceDiv, Nat.reducePow, UInt8.reduceToNat, Int.reduceEq, Int.reduceLT, Int.reduceLE, ↓reduceIte, Nat.reduceAdd, Int.reduceToNat, reduceCtorEq, Nat.reduceLeDiff, ↓As4, hid, hgy, hgx, hb]
     exact Atd (d.length - (k + 2)) (by omega) (Nat.le_refl _) ⟨k + 1, rfl, by omega, by rw [show k + 1 + 1 = k + 2 from rfl, hnx, hdk, hsucc], by simp [forget, get], rfl⟩
   ·have hk2 : k + 1 = d.length := by omega
    rw [hk2, List.take_length] at hdk
    simp -dsimp (disch := first | assumption | omega | (simp only [AsP]; done) | (simp only [AsP]; omega)) only [↓AsR, AsO, AsT, AsU, eq_self, forall_const, Nat.reduceLT, Nat.reduceEqDiff, Nat.reduceSub, Nat.reduceMul, Nat.reduceMod, Nat.reduceDiv, Nat.reducePow, UInt8.reduceToNat, Int.reduceEq, Int.reduceLT, Int.reduceLE, ↓reduceIte, Nat.reduceAdd, Int.reduceToNat, reduceCtorEq, Nat.reduceLeDiff, ↓As4, hk2]
    exact same hdk
theorem AFT {ids : List (List UInt8)} {p : List UInt8 → Bool} (h : ¬ ids.any p = true) : (ids.filter fun x => !p x) = ids := by
 rw [List.filter_eq_self]
 intro x hx
 cases hp : p x with
 | false => rfl
 | true => exact absurd (List.any_eq_true.2 ⟨x, hx, hp⟩) h
theorem AKO {ids : List (List UInt8)} {p : List UInt8 → Bool} (h : ids.any p = true) : ((ids.take (ids.findIdx p + 1)).filter fun x => !p x) = ids.take (ids.findIdx p) ∧ ids.findIdx p < ids.length := by
 have hlt : ids.findIdx p < ids.length := by
  rw [List.findIdx_lt_length]
  rw [List.any_eq_true] at h
  exact h
 refine ⟨?_, hlt⟩
 rw [List.take_succ_eq_append_getElem hlt, List.filter_append]
 have h1 : p ids[ids.findIdx p] = true := List.findIdx_getElem
 have h2 : ((ids.take (ids.findIdx p)).filter fun x => !p x) = ids.take (ids.findIdx p) := by
  rw [List.filter_eq_self]
  intro x hx
  obtain ⟨j, hj, rfl⟩ := List.mem_take_iff_getElem.1 hx
  have := List.not_of_lt_findIdx (p := p) (xs := ids) (i := j) (by omega)
  simpa using this
 rw [h2]; simp [h1]
theorem ALa {ids : List (List UInt8)} {id ver N cp : Nat} {cs0 : List TV} (hcs : cs0.take ids.length = ids.map idT) (hcl : ids.length ≤ cs0.length) (hw0 : ∀ c ∈ cs0, As7 c = 20) (hcp : ids.length ≤ cp) (hlen : ids.length ≤ 100000) {p : List UInt8 → Bool} {H : List Ob} (hid : H[id]? = some (.obj ver (.arr N 20 cs0))) {g : FuncId} {a caps : List TV} (hnt : AyR (a ++ caps)) (hgo : AEh Tryd.prog g = true)
  (hp : ∀ x ∈ ids, ∀ cs T K, (∀ T', K (tb (p x)) (H.set id (.obj ver (.arr N 20 cs)) ++ T ++ T')) → As1 Tryd.prog g (a ++ [idT x] ++ caps) (H.set id (.obj ver (.arr N 20 cs)) ++ T) K) {K : TV → List Ob → Prop}
  (hK : ∀ cs T, cs.length = cs0.length → cs.take (ids.filter fun x => !p x).length = (ids.filter fun x => !p x).map idT → K (.os 20 id ver [] 0 (ids.filter fun x => !p x).length cp) (H.set id (.obj ver (.arr N 20 cs)) ++ T)) : As1 Tryd.prog 49 [.os 20 id ver [] 0 ids.length cp, .fn (.func g) a caps] H K := by
 have hil := Atm hid
 have hat : ∀ (i : Nat) x, ids[i]? = some x → cs0[i]? = some (idT x) := by
  intro i x hx
  have hi := Atm hx
  have h1 : (cs0.take ids.length)[i]? = some (idT x) := by rw [hcs, List.getElem?_map, hx]; rfl
  rwa [List.getElem?_take, if_pos hi] at h1
 refine AuA (by simp) ?_
 simp -dsimp (disch := first | assumption | omega | (simp only [AsP]; done) | (simp only [AsP]; omega)) only [↓AsR, AsO, AsT, AsU, eq_self, forall_const, Nat.reduceLT, Nat.reduceEqDiff, Nat.reduceSub, Nat.reduceMul, Nat.reduceMod, Nat.reduceDiv, Nat.reducePow, UInt8.reduceToNat, Int.reduceEq, Int.reduceLT, Int.reduceLE, ↓reduceIte, Nat.reduceAdd, Int.reduceToNat, reduceCtorEq, Nat.reduceLeDiff, ↓As2]
 refine Aw2 (ANx (p := p) hat hlen hid hgo (fun x hx T K hK => ?_) fun T0 => ?_)
 ·have := hp x hx cs0 T K
  rw [ABL hid] at this
  exact this hK
 by_cases hany : ids.any p = true
 case neg =>
  have hf := AFT hany
  rw [if_neg hany]
  simp -dsimp (disch := first | assumption | omega | (simp only [AsP]; done) | (simp only [AsP]; omega)) only [↓AsR, AsO, AsT, AsU, eq_self, forall_const, Nat.reduceLT, Nat.reduceEqDiff, Nat.reduceSub, Nat.reduceMul, Nat.reduceMod, Nat.reduceDiv, Nat.reducePow, UInt8.reduceToNat, Int.reduceEq, Int.reduceLT, Int.reduceLE, ↓reduceIte, Nat.reduceAdd, Int.reduceToNat, reduceCtorEq, Nat.reduceLeDiff, ↓As2]
  have := hK cs0 T0 rfl (by rw [hf, hcs])
  rwa [hf, ABL hid] at this
 obtain ⟨hf1, hf2⟩ := AKO hany
 rw [if_pos hany]
 generalize ids.findIdx p = i0 at *
 simp -dsimp (disch := first | assumption | omega | (simp only [AsP]; done) | (simp only [AsP]; omega)) only [↓AsR, AsO, AsT, AsU, eq_self, forall_const, Nat.reduceLT, Nat.reduceEqDiff, Nat.reduceSub, Nat.reduceMul, Nat.reduceMod, Nat.reduceDiv, Nat.reducePow, UInt8.reduceToNat, Int.reduceEq, Int.reduceLT, Int.reduceLE, ↓reduceIte, Nat.reduceAdd, Int.reduceToNat, reduceCtorEq, Nat.reduceLeDiff, ↓As2]
 refine At5 (fun q e H' => ∃ (j m : Nat) (cs : List TV) (T : List Ob), q = ids.length - j ∧ j ≤ ids.length ∧ m < j ∧ m = ((ids.take j).filter fun x => !p x).length ∧ cs.length = cs0.length ∧ cs.take m = ((ids.take j).filter fun x => !p x).map idT ∧ (∀ r, j ≤ r → cs[r]? = cs0[r]?) ∧ (∀ c ∈ cs, As7 c = 20) ∧
  e = [(0, .os 20 id ver [] 0 ids.length cp), (1, .fn (.func g) a caps), (5, i64 (m : Int)), (6, i64 (j : Int))] ∧ H' = H.set id (.obj ver (.arr N 20 cs)) ++ T ∧ T0.length ≤ T.length) (ids.length - (i0 + 1)) ?_ ?_
 ·refine ⟨i0 + 1, i0, cs0, T0, by omega, by omega, by omega, ?_, rfl, ?_, fun r hr => rfl, hw0, rfl, by rw [ABL hid], Nat.le_refl _⟩
  ·rw [hf1, List.length_take]; omega
  ·rw [hf1, List.map_take, ← hcs, List.take_take, Nat.min_eq_left (by omega)]
 ·rintro q e H' ⟨j, m, cs, T, rfl, hj, hmj, hm, hcl2, hct, hco, hw, rfl, rfl, hT0⟩
  by_cases h : j < ids.length
  ·have hx : ids[j]? = some ids[j] := List.getElem?_eq_getElem h
   have hsucc := List.take_succ_eq_append_getElem h
   have hpx := hp ids[j] (List.getElem_mem h) cs
   generalize ids[j] = x at *
   have hg : cs[j]? = some (.arr 20 1 (x.map by8)) := by rw [hco j (Nat.le_refl _), hat _ _ hx, As9]
   rw [As9] at hpx
   simp -dsimp (disch := first | assumption | omega | (simp only [AsP]; done) | (simp only [AsP]; omega)) only [↓AsR, AsO, AsT, AsU, eq_self, forall_const, Nat.reduceLT, Nat.reduceEqDiff, Nat.reduceSub, Nat.reduceMul, Nat.reduceMod, Nat.reduceDiv, Nat.reducePow, UInt8.reduceToNat, Int.reduceEq, Int.reduceLT, Int.reduceLE, ↓reduceIte, Nat.reduceAdd, Int.reduceToNat, reduceCtorEq, Nat.reduceLeDiff, ↓As2, hg, hgo]
   rw [List.append_assoc (H.set _ _) T]
   refine Aw2 (hpx _ _ fun T' => ?_)
   have hfil : ((ids.take (j + 1)).filter fun x => !p x) = ((ids.take j).filter fun x => !p x) ++ if p x then [] else [x] := by
    rw [hsucc, List.filter_append]
    cases hpx2 : p x <;> simp [hpx2]
   cases hpt : p x with
   | true =>
    rw [hpt] at hfil
    simp only [if_true, List.append_nil] at hfil
    simp -dsimp (disch := first | assumption | omega | (simp only [AsP]; done) | (simp only [AsP]; omega)) only [↓AsR, AsO, AsT, AsU, eq_self, forall_const, Nat.reduceLT, Nat.reduceEqDiff, Nat.reduceSub, Nat.reduceMul, Nat.reduceMod, Nat.reduceDiv, Nat.reducePow, UInt8.reduceToNat, Int.reduceEq, Int.reduceLT, Int.reduceLE, ↓reduceIte, Nat.reduceAdd, Int.reduceToNat, reduceCtorEq, Nat.reduceLeDiff, ↓As2]
    exact Atd (ids.length - (j + 1)) (by omega) (by simp; omega) ⟨j + 1, m, cs, _, rfl, by omega, by omega, by rw [hfil]; exact hm, hcl2, by rw [hfil]; exact hct, fun r hr => hco r (by omega), hw, by simp [forget, get], by rw [List.append_assoc], by simp; omega⟩
   | false =>
    rw [hpt] at hfil
    simp only [Bool.false_eq_true, if_false] at hfil
    obtain ⟨c, hcm, hcw⟩ : ∃ c, cs[m]? = some c ∧ As7 c = 20 := ⟨cs[m], List.getElem?_eq_getElem (by omega), hw _ (List.getElem_mem _)⟩
    simp -dsimp (disch := first | assumption | omega | (simp only [AsP]; done) | (simp only [AsP]; omega)) only [↓AsR, AsO, AsT, AsU, eq_self, forall_const, Nat.reduceLT, Nat.reduceEqDiff, Nat.reduceSub, Nat.reduceMul, Nat.reduceMod, Nat.reduceDiv, Nat.reducePow, UInt8.reduceToNat, Int.reduceEq, Int.reduceLT, Int.reduceLE, ↓reduceIte, Nat.reduceAdd, Int.reduceToNat, reduceCtorEq, Nat.reduceLeDiff, ↓As2, hcm, hcw]
    refine Atd (ids.length - (j + 1)) (by omega) (by simp; omega) ⟨j + 1, m + 1, cs.set m (idT x), _, rfl, by omega, by omega, by rw [hfil, List.length_append, ← hm]; rfl, by simp [hcl2], ?_, fun r hr => by rw [List.getElem?_set_ne (by omega)]; exact hco r (by omega), fun c hc => (List.mem_or_eq_of_mem_set hc).elim (hw c) fun e => by rw [e]; exact Ata, by simp [forget, get], by rw [As9, List.append_assoc], by simp; omega⟩
    rw [hfil, List.map_append, ← hct, List.map_cons, List.map_nil]
    exact AC1 _ _ _ (by omega)
  ·have hj2 : j = ids.length := by omega
   subst hj2
   rw [List.take_length] at hm hct
   have hml : m ≤ cs.length := by omega
   simp -dsimp (disch := first | assumption | omega | (simp only [AsP]; done) | (simp only [AsP]; omega)) only [↓AsR, AsO, AsT, AsU, eq_self, forall_const, Nat.reduceLT, Nat.reduceEqDiff, Nat.reduceSub, Nat.reduceMul, Nat.reduceMod, Nat.reduceDiv, Nat.reducePow, UInt8.reduceToNat, Int.reduceEq, Int.reduceLT, Int.reduceLE, ↓reduceIte, Nat.reduceAdd, Int.reduceToNat, reduceCtorEq, Nat.reduceLeDiff, ↓As2]
   subst hm
   refine hK _ _ ?_ ?_
   ·simp; omega
   ·rw [List.take_append_of_le_length (by simp; omega), List.take_take, Nat.min_self, hct]
end Go.Proofs.YtingoaihnlhiaaaDoor


namespace Go.Proofs.YtingoaihnlhiaaaDoor
open Go.RowKit Go.Sort Go.Shelf
variable [AtT]
set_option linter.unusedSectionVars false
set_option linter.unusedVariables false
set_option linter.unusedSimpArgs false

theorem AMn {α : Type} {f : α → List Value} {k : Nat} (hf : ∀ x, (f x).length = k) : ∀ (l : List α) (t : Nat), t < l.length * k → (l.flatMap f)[t]? = (l[t / k]?).bind fun x => (f x)[t % k]?
 | [], t, h => by simp at h
 | x :: l, t, h => by
  have hk : 0 < k := by
   rcases Nat.eq_zero_or_pos k with h0 | h0
   ·subst h0; simp at h
   ·exact h0
  rw [List.flatMap_cons]
  by_cases ht : t < k
  ·rw [List.getElem?_append_left (by rw [hf]; exact ht), Nat.div_eq_of_lt ht, Nat.mod_eq_of_lt ht]
   rfl
  ·obtain ⟨s, rfl⟩ : ∃ s, t = s + k := ⟨t - k, by omega⟩
   rw [List.getElem?_append_right (by rw [hf]; omega), hf, Nat.add_sub_cancel, Nat.add_div_right _ hk, Nat.add_mod_right, List.getElem?_cons_succ]
   exact AMn hf l s (by rw [List.length_cons, Nat.add_mul] at h; omega)
theorem AIq {α : Type} [Inhabited α] {f : α → List Value} {k : Nat} (hf : ∀ x, (f x).length = k) (l : List α) : (flatK f k l.toArray).toList = l.flatMap f := by
 have hlen : (l.flatMap f).length = l.length * k := by
  induction l with
  | nil => simp
  | cons x l ih => rw [List.flatMap_cons, List.length_append, ih, hf, List.length_cons, Nat.add_mul]; omega
 apply List.ext_getElem?
 intro t
 by_cases ht : t < l.length * k
 ·have hk : 0 < k := by
   rcases Nat.eq_zero_or_pos k with h0 | h0
   ·subst h0; simp at ht
   ·exact h0
  have hd : t / k < l.length := Nat.div_lt_of_lt_mul (by rw [Nat.mul_comm]; exact ht)
  have hm : t % k < k := Nat.mod_lt _ hk
  rw [AMn hf l t ht, List.getElem?_eq_getElem hd, Option.bind_some]
  have h1 : t < (flatK f k l.toArray).size := by simpa using ht
  have h2 := get_flatK f k l.toArray t (by simpa using ht)
  rw [Array.getElem?_toList, Array.getElem?_eq_getElem h1]
  rw [getElem!_pos _ t h1] at h2
  rw [h2]
  have h3 : l.toArray[t / k]! = l[t / k] := by rw [getElem!_pos l.toArray (t / k) (by simpa using hd)]; simp
  rw [h3, List.getElem?_eq_getElem (by rw [hf]; exact hm), getElem!_pos _ _ (by rw [hf]; exact hm)]
 ·rw [List.getElem?_eq_none (l := (flatK f k l.toArray).toList) (by simpa using Nat.le_of_not_lt ht), List.getElem?_eq_none (l := l.flatMap f) (by rw [hlen]; omega)]
theorem ATO {off : Nat} {pre mid mid' post : List Value} (h1 : pre.length = off) (h2 : mid'.length = mid.length) : putCells id off mid'.toArray (pre ++ mid ++ post).toArray = (pre ++ mid' ++ post).toArray := by
 apply Array.ext_getElem?
 intro t
 simp only [putCells, Array.getElem?_mapIdx, List.getElem?_toArray, List.size_toArray]
 by_cases ha : t < off
 ·rw [List.append_assoc, List.append_assoc, List.getElem?_append_left (by omega), List.getElem?_append_left (by omega)]
  cases pre[t]? with
  | none => rfl
  | some y => simp [show ¬ (off ≤ t) by omega]
 ·obtain ⟨s, rfl⟩ : ∃ s, t = off + s := ⟨t - off, by omega⟩
  have A : ∀ m : List Value, (pre ++ (m ++ post))[off + s]? = (m ++ post)[s]? := fun m => by rw [List.getElem?_append_right (by omega), h1, Nat.add_sub_cancel_left]
  rw [List.append_assoc, List.append_assoc, A, A]
  by_cases hb : s < mid.length
  ·rw [List.getElem?_append_left hb, List.getElem?_append_left (by omega), List.getElem?_eq_getElem hb, List.getElem?_eq_getElem (by omega)]
   simp [h2, hb, show s < mid'.length by omega]
  ·rw [List.getElem?_append_right (by omega), List.getElem?_append_right (by omega), h2]
   cases post[s - mid.length]? with
   | none => rfl
   | some y => simp [show ¬ (s < mid.length) by omega, h2]

/-- SORTED. -/
def sortL {α : Type} (cf : α → α → Int) (d : List α) : List α := d.mergeSort fun x y => !(ltOf cf) y x

theorem AM5 {P : Program} {ρ : Ren} (L : SlLaysF0.n6 P ρ) {α : Type} [Inhabited α] {k : Nat} (aE : ∀ w, (isAgg (ρ.t 24)).run P w = .ok true w) (zE : ∀ w, (Go.sizeOf (ρ.t 24)).run P w = .ok k w) {enc : α → List Value} (hk : ∀ x, (enc x).length = k) (h1 : ∀ x, ∀ v ∈ enc x, v.oneCell' = true)
  {eT : α → TV} (hw : ∀ x, As7 (eT x) = k) (hr : ∀ c w x us, AsV c w (eT x) us ↔ us = enc x) {cf : α → α → Int} (hO : SWO (ltOf cf)) (hT : ∀ x y, (ltOf cf) x y = false → (ltOf cf) y x = false → x = y)
  {g : Nat} (eg : ∀ args w, (callFunc g args).run P w = .ok (.enter g args) w) {id ver N n cp : Nat} {d : List α} {rest : List TV} {fT : TV} {H : List Ob} {K : TV → List Ob → Prop}
  (hf : ∀ β F w v, Sim ⟨β, H, F⟩ w → AJB ⟨β, H, F⟩ w fT v → ∃ cb, v = .func (.func g) #[] cb ∧ ∀ blk off size, CmpLays P g cb enc k cf blk off size w)
  (hid : H[id]? = some (.obj ver (.arr N k (d.map eT ++ rest)))) (hn : n = d.length) (hb : n < 4611686018427387904)
  (hK : K (.tup []) (H.set id (.obj ver (.arr N k ((sortL cf d).map eT ++ rest))))) : As1 P (ρ.f 6) [.os k id ver [] 0 n cp, fT] H K := by
 intro β F w vs hs hv
 obtain ⟨u, us, rfl, h2, h3⟩ := Atv.cons.1 hv
 obtain ⟨u2, us2, rfl, h4, h5⟩ := Atv.cons.1 h3
 rw [Atv.nil] at h5; subst h5
 obtain ⟨cb, rfl, hcmp⟩ := hf β F w u2 hs h4
 rcases h2 with h | h | ⟨ux, h2, rfl⟩
 ·cases h
 ·cases h
 by_cases hn0 : n = 0
 ·obtain ⟨p0, c0, rfl⟩ : ∃ p0 c0, ux = [.slice p0 0 c0] := by
   rw [AsV] at h2
   rcases h2.2 with ⟨_, a0, e, _⟩ | ⟨b, o, cap, t, m, _, e, _⟩
   ·exact ⟨a0, 0, e⟩
   ·exact ⟨_, cap, by rw [e, hn0]⟩
  have hd : d = [] := List.length_eq_zero_iff.1 (by omega)
  subst hd
  have hset : H.set id (.obj ver (.arr N k ((sortL cf ([] : List α)).map eT ++ rest))) = H := by
   have e : sortL cf ([] : List α) = [] := by simp [sortL]
   rw [e]
   apply List.ext_getElem?
   intro i
   rw [List.getElem?_set]
   split
   ·rename_i e; subst e
    rw [hid]; simp [(List.getElem?_eq_some_iff.1 hid).1]
   ·rfl
  rw [hset] at hK
  refine (AnyF.slices_SortFunc_none L p0 c0 (.func (.func g) #[] cb) w).mono ?_
  rintro _ _ ⟨rfl, rfl⟩
  exact ⟨_, _, β, _, F, rfl, hK, hs, Atb.refl _ _, .inr ⟨[], [], rfl, rfl, Atv.nil.2 rfl⟩⟩
 ·rw [AsV] at h2
  rcases h2.2 with ⟨e, _⟩ | ⟨b, o, cap, t, m, hb1, rfl, hb2, hb3, hb4, hb5, hb6⟩
  ·exact absurd e hn0
  rcases hs.ob id _ hid with ⟨k0, _⟩ | ⟨b', off', pre, vs, post, t', fr, k1, k2, k3, k4, k5⟩
  ·have k0' : β id ver = none := k0
   have hb1' : β id ver = some (b, o) := hb1
   rw [k0'] at hb1'; cases hb1'
  have hb1' : β id ver = some (b, o) := hb1
  have k1' : β id ver = some (b', off') := k1
  rw [k1'] at hb1'
  obtain ⟨rfl, rfl⟩ : b' = b ∧ off' = o := by simpa using hb1'
  rw [AsV] at k5
  obtain ⟨c1, c2, c3⟩ := k5
  obtain ⟨va, vb, rfl, c4, c5⟩ := AsX.split c3
  have hmap : ∀ (l : List α) us, AsX (Ctx.bare ⟨β, H, F⟩) w (l.map eT) us ↔ us = l.flatMap enc := by
   intro l
   induction l with
   | nil => intro us; rw [List.map_nil, AsX]; rfl
   | cons x l ih =>
    intro us
    rw [List.map_cons, AsX, List.flatMap_cons]
    constructor
    ·rintro ⟨a, b, rfl, e1, e2⟩; rw [(hr _ _ _ _).1 e1, (ih _).1 e2]
    ·rintro rfl; exact ⟨_, _, rfl, (hr _ _ _ _).2 rfl, (ih _).2 rfl⟩
  rw [hmap] at c4
  subst c4
  have hfl : ∀ l : List α, (l.flatMap enc).length = l.length * k := by
   intro l
   induction l with
   | nil => simp
   | cons x l ih => rw [List.flatMap_cons, List.length_append, ih, hk, List.length_cons, Nat.add_mul]; omega
  have hlt : b' < w.heap.size := (Array.getElem?_eq_some_iff.1 k2).1
  have hH : HoldsK enc k w b' off' d.toArray := by
   intro j hj
   have hj' : j < (d.flatMap enc).length := by rw [hfl]; simpa using hj
   have e1 : (flatK enc k d.toArray)[j]! = (d.flatMap enc)[j] := by
    rw [getElem!_pos _ j hj]
    have := congrArg (fun l : List Value => l[j]?) (AIq hk d)
    simp only [Array.getElem?_toList] at this
    rw [Array.getElem?_eq_getElem hj, List.getElem?_eq_getElem hj'] at this
    exact Option.some.inj this
   rw [e1]
   constructor
   ·rw [cell_of_row w b' _ _ _ _ k2]
    simp only [List.getElem?_toArray]
    rw [List.append_assoc, List.getElem?_append_right (by omega), k4, Nat.add_sub_cancel_left, List.append_assoc, List.getElem?_append_left hj', List.getElem?_eq_getElem hj']
    rfl
   ·simp only [World.frozen?, k2]
    have := k3 (off' + j) (by simp only [List.length_append]; omega)
    simpa using this
  have hsz : d.toArray.size < 4611686018427387904 := by simp; omega
  have hS := AnyQ.slices_SortFunc_total L k aE zE enc hk h1 cf hO g cb b' off' cap d.toArray w eg (hcmp _ _ _) hH hlt hsz hT
  have hz : (off' + Avm [] + 0 * k) = off' := by simp [Avm]
  rw [hz]
  have hz2 : n = d.toArray.size := by simp [hn]
  rw [hz2]
  refine hS.mono ?_
  rintro _ w' ⟨rfl, q, os, rfl⟩
  have hsl : (sortL cf d).length = d.length := by simp [sortL]
  have hmid : ((sortL cf d).flatMap enc).length = (d.flatMap enc).length := by rw [hfl, hfl, hsl]
  have hflat : flatK enc k (d.toArray.toList.mergeSort fun x y => !(ltOf cf) y x).toArray = ((sortL cf d).flatMap enc).toArray := by
   rw [← AIq hk (sortL cf d)]
   simp [sortL]
  have hw1 : (sortWorldK enc k w b' off' q (d.toArray.toList.mergeSort fun x y => !(ltOf cf) y x).toArray os).heap[b']? = some (.cells (pre ++ ((sortL cf d).flatMap enc ++ vb) ++ post).toArray t' fr) := by
   show ((w.heap.modify b' (onCells (putCells _root_.id off' (flatK enc k (d.toArray.toList.mergeSort fun x y => !(ltOf cf) y x).toArray)))) ++ os)[b']? = _
   rw [hflat, Array.getElem?_append, if_pos (by simpa using hlt), Array.getElem?_modify, if_pos rfl, k2]
   simp only [Option.map_some, onCells]
   rw [show pre ++ (d.flatMap enc ++ vb) ++ post = pre ++ d.flatMap enc ++ (vb ++ post) by simp, ATO k4 hmid]
   simp
  have hw2 : ∀ b2, b2 < w.heap.size → b2 ≠ b' → (sortWorldK enc k w b' off' q (d.toArray.toList.mergeSort fun x y => !(ltOf cf) y x).toArray os).heap[b2]? = w.heap[b2]? := by
   intro b2 hb2 hne
   show ((w.heap.modify b' (onCells (putCells _root_.id off' (flatK enc k (d.toArray.toList.mergeSort fun x y => !(ltOf cf) y x).toArray)))) ++ os)[b2]? = _
   rw [Array.getElem?_append, if_pos (by simpa using hb2), Array.getElem?_modify, if_neg (Ne.symm hne)]
  generalize hgen : sortWorldK enc k w b' off' q (d.toArray.toList.mergeSort fun x y => !(ltOf cf) y x).toArray os = w2 at hw1 hw2 ⊢
  have o1 : w2.os = w.os ∧ w2.tape = w.tape ∧ w2.output = w.output ∧ w.heap.size ≤ w2.heap.size := by
   rw [← hgen]
   refine ⟨rfl, rfl, rfl, ?_⟩
   simp [sortWorldK, putRowK, Sort.ahead]
  obtain ⟨t1, t2⟩ := hs.turn (β' := β) (o' := .obj ver (.arr N k ((sortL cf d).map eT ++ rest))) (w' := w2) hid rfl rfl (Nat.le_refl _) (fun _ _ _ => rfl) (fun b1 off e => .inl ⟨off, e⟩) o1.1 o1.2.1 o1.2.2.1 o1.2.2.2
   (fun b1 hb1 => by
    by_cases e : b1 = b'
    ·subst e
     simp only [World.shape?, hw1, k2]
     simp only [List.size_toArray, List.length_append]
     rw [hmid]
    ·exact AtQ (hw2 b1 hb1 e))
   (fun b1 hb1 hne => hw2 b1 hb1 fun e => hne off' (e ▸ k1'))
   (fun hm => .inr ⟨b', off', pre, (sortL cf d).flatMap enc ++ vb, post, t', fr, k1, hw1, by
    have : (pre ++ ((sortL cf d).flatMap enc ++ vb) ++ post).length = (pre ++ (d.flatMap enc ++ vb) ++ post).length := by
     simp only [List.length_append, hmid]
    rw [this]; exact k3, k4, by
    rw [AsV]
    refine ⟨by rw [List.length_append, List.length_map, hsl, ← c1, List.length_append, List.length_map], fun x hx => ?_, AsX.append ?_ (AsX.mono hm.bare c5)⟩
    ·rcases List.mem_append.1 hx with hx | hx
     ·obtain ⟨y, _, rfl⟩ := List.mem_map.1 hx; exact hw y
     ·exact c2 x (List.mem_append_right _ hx)
    ·have : ∀ (c : Ctx) (l : List α), AsX c w2 (l.map eT) (l.flatMap enc) := by
      intro c l
      induction l with
      | nil => rw [List.map_nil, AsX]; rfl
      | cons x l ih => rw [List.map_cons, AsX, List.flatMap_cons]; exact ⟨_, _, rfl, (hr _ _ _ _).2 rfl, ih⟩
     exact this _ _⟩)
  exact ⟨_, _, β, _, F, rfl, hK, t1, t2, .inr ⟨[], [], rfl, rfl, Atv.nil.2 rfl⟩⟩

abbrev ANE := {l : List UInt8 // l.length = 20}
instance : Inhabited ANE := ⟨⟨List.replicate 20 0, by simp⟩⟩
def AFx (x : ANE) : List Value := x.1.map fun b => Value.int .u8 b.toNat
def ANC (x y : ANE) : Int := Lib.compareBytes x.1 y.1
def AU8 (x : ANE) : TV := .arr 20 1 (x.1.map by8)
theorem AYe (x y : ANE) : ltOf ANC x y = decide (ltB x.1 y.1) := by
 unfold ltOf ANC
 exact decide_eq_decide.2 APJ
theorem AYV : SWO (ltOf ANC) where
 irrefl x := by rw [AYe]; simpa using AxE x.1
 trans x y z h1 h2 := by
  rw [AYe, decide_eq_true_eq] at *
  exact Axe h1 h2
 ntrans x y z h1 h2 := by
  rw [AYe, decide_eq_false_iff_not] at *
  intro h3
  by_cases h4 : ltB y.1 x.1
  ·exact h2 (Axe h4 h3)
  ·have e := AE9 h1 h4
   rw [e] at h3; exact h2 h3
theorem AZm (x y : ANE) (h1 : ltOf ANC x y = false) (h2 : ltOf ANC y x = false) : x = y := by
 rw [AYe, decide_eq_false_iff_not] at *
 exact Subtype.ext (AE9 h1 h2)
theorem AZj (c : Ctx) (w : World) (x : ANE) (us : List Value) : AsV c w (AU8 x) us ↔ us = AFx x := by
 unfold AU8 AFx
 rw [AsV]
 constructor
 ·rintro ⟨_, _, h⟩
  have := AxZ (fun y hy => by obtain ⟨b, _, rfl⟩ := List.mem_map.1 hy; exact AMm b) h
  rwa [ADF] at this
 ·rintro rfl
  exact ⟨by rw [List.length_map]; exact x.2, fun y hy => by obtain ⟨b, _, rfl⟩ := List.mem_map.1 hy; rfl, Av3 _⟩
/-- Sorted by their bytes. -/
def AwA (d : List (List UInt8)) : List (List UInt8) := d.mergeSort fun x y => !decide (ltB y x)
theorem AFK (d : List (List UInt8)) : (AwA d).Pairwise fun a b => ¬ ltB b a := by
 have h := List.pairwise_mergeSort (le := fun x y : List UInt8 => !decide (ltB y x)) (fun a b c h1 h2 => by
  simp only [Bool.not_eq_true', decide_eq_false_iff_not] at *
  intro h3
  by_cases h4 : ltB a b
  ·exact h2 (Axe h3 h4)
  ·have e := AE9 h1 h4
   rw [e] at h2; exact h2 h3) (fun a b => by
  by_cases h4 : ltB b a
  ·have : ¬ ltB a b := fun h => AxE _ (Axe h h4)
   simp [h4, this]
  ·simp [h4]) d
 exact h.imp fun h => by simpa using h
theorem AHm (d : List (List UInt8)) (z : List UInt8) : z ∈ AwA d ↔ z ∈ d := List.mem_mergeSort
theorem AKQ (d : List (List UInt8)) : (AwA d).length = d.length := by simp [AwA]
theorem AQO {P : Program} {ρ : Ren} (L : SlLaysF0.n6 P ρ) (aE : ∀ w, (isAgg (ρ.t 24)).run P w = .ok true w) (zE : ∀ w, (Go.sizeOf (ρ.t 24)).run P w = .ok 20 w)
  {g : Nat} (eg : ∀ args w, (callFunc g args).run P w = .ok (.enter g args) w) {cb : Array Value} (hc : ∀ (x y : ANE) (w : World), Calls P g (#[.agg (AFx x).toArray, .agg (AFx y).toArray] ++ cb) w fun e w' => e = .returned (.int .i64 (ANC x y)) ∧ ∃ q os', w' = Sort.grow (w.drewN q) os')
  {id ver N n cp : Nat} {d : List (List UInt8)} {rest : List TV} {fT : TV} {H : List Ob} {K : TV → List Ob → Prop} (hf : ∀ c w v, AJB c w fT v → v = .func (.func g) #[] cb)
  (hid : H[id]? = some (.obj ver (.arr N 20 (d.map (fun l => .arr 20 1 (l.map by8)) ++ rest)))) (hn : n = d.length) (hb : n < 4611686018427387904)
  (hK : K (.tup []) (H.set id (.obj ver (.arr N 20 ((AwA d).map (fun l => .arr 20 1 (l.map by8)) ++ rest))))) : As1 P (ρ.f 6) [.os 20 id ver [] 0 n cp, fT] H K := by
 intro β F w vs hs hv
 have hl : ∀ x ∈ d, x.length = 20 := by
  have key : ∀ us, AsV ⟨β, H, F⟩ w (.arr N 20 (d.map (fun l => .arr 20 1 (l.map by8)) ++ rest)) us → ∀ x ∈ d, x.length = 20 := by
   intro us h x hx
   rw [AsV] at h
   obtain ⟨_, _, h⟩ := h
   obtain ⟨a, b, rfl, h1, _⟩ := AsX.split h
   have mem : ∀ (l : List TV) us, AsX (Ctx.bare ⟨β, H, F⟩) w l us → ∀ y ∈ l, ∃ vs, AsV (Ctx.bare ⟨β, H, F⟩) w y vs := by
    intro l
    induction l with
    | nil => intro us _ y hy; cases hy
    | cons z l ih =>
     intro us h y hy
     rw [AsX] at h
     obtain ⟨a, b, _, h1, h2⟩ := h
     rcases List.mem_cons.1 hy with rfl | hy
     ·exact ⟨a, h1⟩
     ·exact ih b h2 y hy
   obtain ⟨vs, hy⟩ := mem _ _ h1 _ (List.mem_map.2 ⟨x, hx, rfl⟩)
   rw [AsV] at hy
   simpa using hy.1
  rcases hs.ob id _ hid with ⟨_, h⟩ | ⟨_, _, _, vs, _, _, _, _, _, _, _, h⟩
  ·exact key _ h
  ·exact key _ h
 have he : ∃ d' : List ANE, d'.map (·.1) = d := ⟨d.attachWith _ hl, by simp⟩
 obtain ⟨d', rfl⟩ := he
 have e1 : (d'.map (·.1)).map (fun l => TV.arr 20 1 (l.map by8)) = d'.map AU8 := by simp [AU8, Function.comp_def]
 have e2 : (AwA (d'.map (·.1))).map (fun l => TV.arr 20 1 (l.map by8)) = (sortL ANC d').map AU8 := by
  have : AwA (d'.map (·.1)) = (sortL ANC d').map (·.1) := by
   unfold AwA sortL
   rw [List.map_mergeSort (r := fun x y : ANE => !(ltOf ANC) y x) (s := fun x y => !decide (ltB y x)) (f := fun x : ANE => x.1) (fun a _ b _ => by rw [AYe])]
  rw [this]; simp [AU8, Function.comp_def]
 rw [e1] at hid
 rw [e2] at hK
 exact AM5 L (k := 20) aE zE (enc := AFx) (fun x => by unfold AFx; rw [List.length_map]; exact x.2) (fun x v hv => by unfold AFx at hv; obtain ⟨b, _, rfl⟩ := List.mem_map.1 hv; rfl) (eT := AU8) (fun x => rfl) AZj AYV AZm eg
  (fun β F w v _ h => ⟨cb, hf _ _ _ h, fun blk off size m os dk _ x y => hc x y _⟩) hid (by rw [hn, List.length_map]) hb hK β F w vs hs hv
end Go.Proofs.YtingoaihnlhiaaaDoor


namespace Go.Proofs
open Go.Shelf
def Tryd.sortL_ren : Go.Shelf.Ren := ⟨fun | 6 => 45 | 15 => 56 | 14 => 55 | 28 => 67 | 29 => 68 | 20 => 59 | 21 => 60 | 22 => 61 | 23 => 62 | 24 => 63 | 25 => 64 | 26 => 65 | 27 => 66 | 46 => 69 | 47 => 70 | 48 => 71 | 49 => 72 | 50 => 73 | 57 => 74 | n => n, fun | 22 => 23 | 24 => 40 | 25 => 112 | 3 => 3 | 39 => 133 | 0 => 0 | 53 => 144 | 55 => 146 | 4 => 4 | 46 => 137 | 45 => 136 | 50 => 141 | 5 => 5 | 9 => 9 | 66 => 147 | 70 => 151 | 76 => 153 | 77 => 154 | n => n, fun | n => n⟩
theorem Tryd.sortL : Go.Proofs.SlLaysF0.n6 Tryd.prog Tryd.sortL_ren := {
 mixed := by kernel_rfl
 f6 := ⟨Tryd.f45.name, by decide, Tryd.func45.trans (congrArg some (by kernel_rfl))⟩
 f14 := ⟨Tryd.f55.name, by decide, Tryd.func55.trans (congrArg some (by kernel_rfl))⟩
 f15 := Tryd.func56.trans (congrArg some (by kernel_rfl))
 f20 := ⟨Tryd.f59.name, by decide, Tryd.func59.trans (congrArg some (by kernel_rfl))⟩
 f21 := ⟨Tryd.f60.name, by decide, Tryd.func60.trans (congrArg some (by kernel_rfl))⟩
 f22 := ⟨Tryd.f61.name, by decide, Tryd.func61.trans (congrArg some (by kernel_rfl))⟩
 f23 := ⟨Tryd.f62.name, by decide, Tryd.func62.trans (congrArg some (by kernel_rfl))⟩
 f24 := ⟨Tryd.f63.name, by decide, Tryd.func63.trans (congrArg some (by kernel_rfl))⟩
 f25 := ⟨Tryd.f64.name, by decide, Tryd.func64.trans (congrArg some (by kernel_rfl))⟩
 f26 := ⟨Tryd.f65.name, by decide, Tryd.func65.trans (congrArg some (by kernel_rfl))⟩
 f27 := ⟨Tryd.f66.name, by decide, Tryd.func66.trans (congrArg some (by kernel_rfl))⟩
 f28 := Tryd.func67.trans (congrArg some (by kernel_rfl))
 f29 := Tryd.func68.trans (congrArg some (by kernel_rfl))
 f46 := ⟨Tryd.f69.name, by decide, Tryd.func69.trans (congrArg some (by kernel_rfl))⟩
 f47 := Tryd.func70.trans (congrArg some (by kernel_rfl))
 f48 := Tryd.func71.trans (congrArg some (by kernel_rfl))
 f49 := ⟨Tryd.f72.name, by decide, Tryd.func72.trans (congrArg some (by kernel_rfl))⟩
 f50 := ⟨Tryd.f73.name, by decide, Tryd.func73.trans (congrArg some (by kernel_rfl))⟩
 f57 := ⟨Tryd.f74.name, by decide, Tryd.func74.trans (congrArg some (by kernel_rfl))⟩
 t0 := Tryd.underlying0
 a0 := Tryd.isAgg0
 z0 := Tryd.sizeOf0
 v0 := Tryd.zeroValue0
 t3 := Tryd.underlying3
 a3 := Tryd.isAgg3
 z3 := Tryd.sizeOf3
 v3 := Tryd.zeroValue3
 t4 := Tryd.underlying4
 a4 := Tryd.isAgg4
 z4 := Tryd.sizeOf4
 v4 := Tryd.zeroValue4
 t5 := Tryd.underlying5
 a5 := Tryd.isAgg5
 z5 := Tryd.sizeOf5
 v5 := Tryd.zeroValue5
 t9 := Tryd.underlying9
 a9 := Tryd.isAgg9
 z9 := Tryd.sizeOf9
 v9 := Tryd.zeroValue9
 t22 := Tryd.underlying23
 a22 := Tryd.isAgg23
 z22 := Tryd.sizeOf23
 v22 := Tryd.zeroValue23
 t25 := Tryd.underlying112
 a25 := Tryd.isAgg112
 z25 := Tryd.sizeOf112
 v25 := Tryd.zeroValue112
 t39 := Tryd.underlying133
 a39 := Tryd.isAgg133
 z39 := Tryd.sizeOf133
 v39 := Tryd.zeroValue133
 t45 := Tryd.underlying136
 a45 := Tryd.isAgg136
 z45 := Tryd.sizeOf136
 v45 := Tryd.zeroValue136
 t46 := Tryd.underlying137
 a46 := Tryd.isAgg137
 z46 := Tryd.sizeOf137
 v46 := Tryd.zeroValue137
 t50 := Tryd.underlying141
 a50 := Tryd.isAgg141
 z50 := Tryd.sizeOf141
 v50 := Tryd.zeroValue141
 t53 := Tryd.underlying144
 a53 := Tryd.isAgg144
 z53 := Tryd.sizeOf144
 v53 := Tryd.zeroValue144
 t55 := Tryd.underlying146
 a55 := Tryd.isAgg146
 z55 := Tryd.sizeOf146
 v55 := Tryd.zeroValue146
 t66 := Tryd.underlying147
 a66 := Tryd.isAgg147
 z66 := Tryd.sizeOf147
 v66 := Tryd.zeroValue147
 t70 := Tryd.underlying151
 a70 := Tryd.isAgg151
 z70 := Tryd.sizeOf151
 v70 := Tryd.zeroValue151
 t76 := Tryd.underlying153
 a76 := Tryd.isAgg153
 z76 := Tryd.sizeOf153
 v76 := Tryd.zeroValue153
 t77 := Tryd.underlying154
 a77 := Tryd.isAgg154
 z77 := Tryd.sizeOf154
 v77 := Tryd.zeroValue154 }
end Go.Proofs


namespace Go.Proofs.YtingoaihnlhiaaaDoor
open Go.RowKit
variable [AtT]
set_option linter.unusedSectionVars false
set_option linter.unusedVariables false

theorem AKl {P : Program} {w : World} {u v : Value} {a b : List UInt8} (h1 : (Extern.Bytes.bytesOf u).run P w = .ok ⟨a.toArray⟩ w) (h2 : (Extern.Bytes.bytesOf v).run P w = .ok ⟨b.toArray⟩ w) : (Extern.BytealgCompare.compare #[u, v]).run P w = .ok (.int .i64 (Lib.compareBytes a b)) w := by
 change Sem.run P (do pure (goInt (Extern.BytealgCompare.cmp (← Extern.Bytes.bytesOf u) (← Extern.Bytes.bytesOf v)))) w = _
 simp only [Sem.run_bind, Sem.run_pure, h1, h2, Result.andThen]
 rw [Lib.cmp_eq]
 rfl
set_option maxHeartbeats 2000000 in
set_option maxRecDepth 100000 in
theorem AMP (u v : Value) (z : Int) (w : World) (h : (Extern.BytealgCompare.compare #[u, v]).run Tryd.prog w = .ok (.int .i64 z) w) :
  Calls Tryd.prog 47 #[u, v] w fun e w' => e = .returned (.int .i64 z) ∧ w' = w := by
 go_enter Tryd.func47, Tryd.ntmps47
 go_wp2
 rw [run_callFunc_extern Tryd.func57 (by kernel_rfl) (by kernel_rfl) (by kernel_rfl) (e := Extern.BytealgCompare.compare) (by kernel_rfl), h]
 simp only [Result.andThen]
 rw [Oper.upon_value]
 go_wp2
 go_ret
 exact ⟨rfl, rfl⟩
theorem AHt {P : Program} {W : World} {b n c : Nat} {t : TypeId} {fr : Nat × Nat} {l : List UInt8} (h : W.heap[b]? = some (.cells (l.map fun b => Value.int .u8 b.toNat).toArray t fr)) (hn : n = l.length) : (Extern.Bytes.bytesOf (.slice (some ⟨b, 0, none⟩) n c)).run P W = .ok ⟨l.toArray⟩ W := by
 subst hn
 have hc : Aua W b 0 (l.map fun b => Value.int .u8 b.toNat) := by
  have := AwZ (w := W) (b := b) (pre := []) (a := []) (m := l.map fun b => Value.int .u8 b.toNat) (q := []) (post := []) (t := t) (fr := fr) (by simpa using h)
  simpa using this
 have hl := Lib.run_loadBytesX (P := P) W (l.map fun b : UInt8 => (b.toNat : Int)) ⟨b, 0, none⟩ .empty (fun j x hj => by
  rw [AuP]
  refine hc j _ ?_
  rw [List.getElem?_map] at hj ⊢
  cases hg : l[j]? with
  | none => rw [hg] at hj; cases hj
  | some y => rw [hg] at hj; cases hj; rfl)
 have e2 : Lib.bytesOf (l.map fun b : UInt8 => (b.toNat : Int)) = l := by simp [Lib.bytesOf, List.map_map, Function.comp_def]
 rw [e2] at hl
 simp only [List.length_map] at hl ⊢
 simp only [Extern.Bytes.bytesOf]
 rw [hl]
 congr 1
 apply ByteArray.ext
 show (#[] : Array UInt8) ++ l.toArray = l.toArray
 simp
theorem AO3 {w : World} {o1 o2 : Obj} : ((w.alloc o1).alloc o2).heap[w.heap.size]? = some o1 ∧ ((w.alloc o1).alloc o2).heap[w.heap.size + 1]? = some o2 := by
 constructor
 ·show ((w.heap.push o1).push o2)[w.heap.size]? = some o1
  rw [Array.getElem?_push, if_neg (by simp), Array.getElem?_push, if_pos rfl]
 ·show ((w.heap.push o1).push o2)[w.heap.size + 1]? = some o2
  rw [Array.getElem?_push, if_pos (by simp)]
theorem ASE {w : World} {o1 o2 : Obj} : ((w.alloc o1).alloc o2).drew = Sort.grow (w.drewN 1) #[o1, o2] := by
 have e : w.heap ++ #[o1, o2] = (w.heap.push o1).push o2 := by apply Array.ext'; simp
 show _ = { w.drewN 1 with heap := w.heap ++ #[o1, o2] }
 rw [e]; rfl
set_option maxHeartbeats 2000000 in
set_option maxRecDepth 100000 in
theorem ASq (x y : ANE) (w : World) : Calls Tryd.prog 46 #[.agg (AFx x).toArray, .agg (AFx y).toArray] w fun e w' => e = .returned (.int .i64 (ANC x y)) ∧ ∃ q os', w' = Sort.grow (w.drewN q) os' := by
 have hcon : ∀ (t1 t2 : TypeId) (W : World), W.heap = ((w.alloc (.cells (AFx x).toArray t1)).alloc (.cells (AFx y).toArray t2)).heap → Calls Tryd.prog 47 #[.slice (some ⟨w.heap.size, 0, none⟩) 20 20, .slice (some ⟨w.heap.size + 1, 0, none⟩) 20 20] W fun e w' => e = .returned (.int .i64 (ANC x y)) ∧ w' = W :=
  fun t1 t2 W hW => AMP _ _ _ W (AKl (AHt (by rw [hW]; exact AO3.1) x.2.symm) (AHt (by rw [hW]; exact AO3.2) y.2.symm))
 generalize ANC x y = z at *
 generalize (AFx x).toArray = xs at *
 generalize (AFx y).toArray = ys at *
 go_enter Tryd.func46, Tryd.ntmps46
 go_wp2
 go_region_with (go_at_call 47; refine Calls.mono (hcon 40 40 _ (by rfl)) ?_; rintro e w' ⟨rfl, rfl⟩)
 go_wp2
 go_ret
 exact ⟨rfl, 1, #[.cells xs 40, .cells ys 40], ASE⟩
/-- slices.SortFunc, at the ids of a row of one's own. -/
theorem AZM {id ver N cp : Nat} {d : List (List UInt8)} {H : List Ob} {K : TV → List Ob → Prop} (hid : H[id]? = some (.obj ver (.arr N 20 (d.map idT)))) (hb : d.length ≤ 100000)
  (hK : K (.tup []) (H.set id (.obj ver (.arr N 20 ((AwA d).map idT))))) : As1 Tryd.prog 45 [.os 20 id ver [] 0 d.length cp, .val (.func (.func 46) #[] #[])] H K := by
 have e : (fun l : List UInt8 => TV.arr 20 1 (l.map by8)) = idT := by funext l; exact As9.symm
 refine AQO Tryd.sortL (fun w => Tryd.isAgg40 w) (fun w => Tryd.sizeOf40 w) (g := 46) (cb := #[]) (rest := []) (d := d) (enters_of Tryd.func46 (by kernel_rfl) rfl) (fun x y w => ASq x y w) (fun c w v h => ?_) (by rw [hid, e, List.append_nil]) rfl (by omega) (by rw [e, List.append_nil]; exact hK)
 exact Rep.val.1 (Or.inl h)
end Go.Proofs.YtingoaihnlhiaaaDoor


namespace Go.Proofs.YtingoaihnlhiaaaDoor
open Go.RowKit
variable [AtT]
set_option linter.unusedSectionVars false
set_option linter.unusedVariables false
set_option linter.unusedSimpArgs false

theorem ALl {ids : List (List UInt8)} (hlen : ids.length ≤ 100000) {H : List Ob} {id ver N cp : Nat} {cs : List TV} (hid : H[id]? = some (.obj ver (.arr N 20 cs))) (hcs : cs.take ids.length = ids.map idT) (hcl : ids.length ≤ cs.length) {K : TV → List Ob → Prop} (h0 : ids = [] → K (.val (.slice none 0 0)) H) (h1 : K (.os 20 H.length 1 [] 0 ids.length ids.length) (H ++ [.obj 1 (.arr ids.length 20 (ids.map idT))])) :
  As1 Tryd.prog 38 [.os 20 id ver [] 0 ids.length cp] H K := by
 have h3 := Atm hid
 refine At6 (by simp) ?_
 by_cases hn : ids = []
 ·subst hn
  simp -dsimp (disch := first | assumption | omega | (simp only [AsP]; done) | (simp only [AsP]; omega)) only [↓AsR, AsO, AsT, AsU, eq_self, forall_const, Nat.reduceLT, Nat.reduceEqDiff, Nat.reduceSub, Nat.reduceMul, Nat.reduceMod, Nat.reduceDiv, Nat.reducePow, UInt8.reduceToNat, Int.reduceEq, Int.reduceLT, Int.reduceLE, ↓reduceIte, Nat.reduceAdd, Int.reduceToNat, reduceCtorEq, Nat.reduceLeDiff, ↓As5, hid]
  refine AHq ?_ ?_
  ·simp -dsimp (disch := first | assumption | omega | (simp only [AsP]; done) | (simp only [AsP]; omega)) only [↓AsR, AsO, AsT, AsU, eq_self, forall_const, Nat.reduceLT, Nat.reduceEqDiff, Nat.reduceSub, Nat.reduceMul, Nat.reduceMod, Nat.reduceDiv, Nat.reducePow, UInt8.reduceToNat, Int.reduceEq, Int.reduceLT, Int.reduceLE, ↓reduceIte, Nat.reduceAdd, Int.reduceToNat, reduceCtorEq, Nat.reduceLeDiff, ↓As5, hid]
   exact h0 rfl
  ·simp -dsimp (disch := first | assumption | omega | (simp only [AsP]; done) | (simp only [AsP]; omega)) only [↓AsR, AsO, AsT, AsU, eq_self, forall_const, Nat.reduceLT, Nat.reduceEqDiff, Nat.reduceSub, Nat.reduceMul, Nat.reduceMod, Nat.reduceDiv, Nat.reducePow, UInt8.reduceToNat, Int.reduceEq, Int.reduceLT, Int.reduceLE, ↓reduceIte, Nat.reduceAdd, Int.reduceToNat, reduceCtorEq, Nat.reduceLeDiff, ↓As5, hid]
   simpa using h1
 ·have hn0 : ids.length ≠ 0 := fun e => hn (List.length_eq_zero_iff.1 e)
  simp -dsimp (disch := first | assumption | omega | (simp only [AsP]; done) | (simp only [AsP]; omega)) only [↓AsR, AsO, AsT, AsU, eq_self, forall_const, Nat.reduceLT, Nat.reduceEqDiff, Nat.reduceSub, Nat.reduceMul, Nat.reduceMod, Nat.reduceDiv, Nat.reducePow, UInt8.reduceToNat, Int.reduceEq, Int.reduceLT, Int.reduceLE, ↓reduceIte, Nat.reduceAdd, Int.reduceToNat, reduceCtorEq, Nat.reduceLeDiff, ↓As5, hid]
  simpa [hcs] using h1
theorem AVt {l : List Nd} (hok : GOk l) {D seen : List (List UInt8)} (hD : ∀ x ∈ D, x ∈ As8 l) (hs : ∀ x, x ∈ seen ↔ Rc l (D.flatMap (pOf l)) x) : (D.filter fun x => !seen.contains x) = AEN l D := by
 refine List.filter_congr fun x hx => ?_
 congr 1
 by_cases h : x ∈ seen
 ·rw [ANf (p := AJ9 l D x) ((AKv hok hD hx).1 ((hs x).1 h))]; simpa using h
 ·rw [ANy (p := AJ9 l D x) fun k => h ((hs x).2 ((AKv hok hD hx).2 k))]; simpa using h
theorem AK4 {l : List Nd} (hok : GOk l) (hl : l.length ≤ 100) (hp : ∀ n ∈ l, n.ps.length ≤ 1000) {D : List (List UInt8)} (hDl : D.length ≤ 100) (hD : ∀ x ∈ D, x ∈ As8 l) {H : List Ob} {gi mi id ver N cp : Nat} {cs : List TV} (hg : H[gi]? = some (.obj 0 (.agg [.mp mi 0, .val (.map none)]))) (hm : H[mi]? = some (.mpo (.arr 20) (Att l)))
  (hid : H[id]? = some (.obj ver (.arr N 20 cs))) (hcs : cs.take D.length = D.map idT) (hcl : D.length ≤ cs.length) (hcp : D.length ≤ cp) (hw : ∀ c ∈ cs, As7 c = 20) {K : TV → List Ob → Prop}
  (h1 : ∀ cs' H', H'[id]? = some (.obj ver (.arr N 20 cs')) → cs'.take (AEN l D).length = (AEN l D).map idT → (AEN l D).length ≤ cs'.length → K (.os 20 id ver [] 0 (AEN l D).length cp) H') :
  vwp Tryd.prog At9 (AJg AuZ K) [(0, .op gi 0 []), (1, .os 20 id ver [] 0 D.length cp)] H := by
 have h2 := Atm hg
 have h3 := Atm hm
 have h4 := Atm hid
 have hat : ∀ (i : Nat) x, D[i]? = some x → cs[i]? = some (idT x) := by
  intro i x hx
  have hi := Atm hx
  have h1 : (cs.take D.length)[i]? = some (idT x) := by rw [hcs, List.getElem?_map, hx]; rfl
  rwa [List.getElem?_take, if_pos hi] at h1
 have hfl : ∀ i, ((D.take i).flatMap (pOf l)).length ≤ 1000 * i := by
  intro i
  have key : ∀ m : List (List UInt8), (∀ x ∈ m, x ∈ As8 l) → (m.flatMap (pOf l)).length ≤ 1000 * m.length := by
   intro m
   induction m with
   | nil => simp
   | cons a m ih =>
    intro h
    obtain ⟨n, hn, rfl⟩ := List.mem_map.1 (h a (by simp))
    have h1 := hp n hn
    have h2 := ih fun x hx => h x (by simp [hx])
    rw [List.flatMap_cons, List.length_append, List.length_cons, AIa hok.1.nodup hn]; omega
  have h1 := key (D.take i) fun x hx => hD x (List.mem_of_mem_take hx)
  have h2 : (D.take i).length ≤ i := by rw [List.length_take]; omega
  omega
 simp -dsimp (disch := first | assumption | omega | (simp only [AsP]; done) | (simp only [AsP]; omega)) only [↓AsR, AsO, AsT, AsU, eq_self, forall_const, Nat.reduceLT, Nat.reduceEqDiff, Nat.reduceSub, Nat.reduceMul, Nat.reduceMod, Nat.reduceDiv, Nat.reducePow, UInt8.reduceToNat, Int.reduceEq, Int.reduceLT, Int.reduceLE, ↓reduceIte, Nat.reduceAdd, Int.reduceToNat, reduceCtorEq, Nat.reduceLeDiff, ↓Atk]
 refine At5 (fun q e H' => ∃ (i v cp2 : Nat) (ps : List (List UInt8)) (T : List Ob), q = D.length - i ∧ i ≤ D.length ∧ ps = (D.take i).flatMap (pOf l) ∧ ps.length ≤ cp2 ∧ e = [(0, .op gi 0 []), (1, .os 20 id ver [] 0 D.length cp), (5, .os 20 H.length v [] 0 ps.length cp2), (15, .os 20 id ver [] 0 D.length cp), (16, i64 (D.length : Int)), (17, i64 (i : Int))] ∧
  H' = H ++ [.obj v (.arr ps.length 20 (ps.map idT))] ++ T) D.length ?_ ?_
 ·exact ⟨0, 0, 0, [], [], by simp, by simp, by simp, by simp, by simp [forget, get], by simp⟩
 ·rintro q e H' ⟨i, v, cp2, ps, T, rfl, hi, hps, hcp2, rfl, rfl⟩
  have hpl := hfl i
  rw [← hps] at hpl
  by_cases h : i < D.length
  ·have hx : D[i]? = some D[i] := List.getElem?_eq_getElem h
   have hsucc := List.take_succ_eq_append_getElem h
   have hxm := hD _ (List.getElem_mem h)
   generalize D[i] = x at *
   have hgx := hat _ _ hx
   rw [As9] at hgx
   obtain ⟨n, hn, rfl⟩ := List.mem_map.1 hxm
   have hlook : Aw0 n.id (Att l) = some (ndT n) := AyA hok.1.nodup hn
   have hpn := hp n hn
   have hpo : pOf l n.id = n.ps := AIa hok.1.nodup hn
   have htk : (ps.map idT).take ps.length = ps.map idT := AuG rfl
   simp -dsimp (disch := first | assumption | omega | (simp only [AsP]; done) | (simp only [AsP]; omega)) only [↓AsR, AsO, AsT, AsU, eq_self, forall_const, Nat.reduceLT, Nat.reduceEqDiff, Nat.reduceSub, Nat.reduceMul, Nat.reduceMod, Nat.reduceDiv, Nat.reducePow, UInt8.reduceToNat, Int.reduceEq, Int.reduceLT, Int.reduceLE, ↓reduceIte, Nat.reduceAdd, Int.reduceToNat, reduceCtorEq, Nat.reduceLeDiff, ↓Atk, hid, hgx, hg, hm, hlook, AtA, htk]
   exact Atd (D.length - (i + 1)) (by omega) (by simp) ⟨i + 1, v + 1, _, ps ++ n.ps, _, rfl, by omega, by rw [hsucc, List.flatMap_append, ← hps]; simp [hpo], Nat.le_refl _, by simp [forget, get], by simp; rfl⟩
  ·have hi2 : i = D.length := by omega
   subst hi2
   rw [List.take_length] at hps
   simp -dsimp (disch := first | assumption | omega | (simp only [AsP]; done) | (simp only [AsP]; omega)) only [↓AsR, AsO, AsT, AsU, eq_self, forall_const, Nat.reduceLT, Nat.reduceEqDiff, Nat.reduceSub, Nat.reduceMul, Nat.reduceMod, Nat.reduceDiv, Nat.reducePow, UInt8.reduceToNat, Int.reduceEq, Int.reduceLT, Int.reduceLE, ↓reduceIte, Nat.reduceAdd, Int.reduceToNat, reduceCtorEq, Nat.reduceLeDiff, ↓Atk]
   have hpin : ∀ x ∈ ps, x ∈ As8 l := by
    rw [hps]; intro x hx
    obtain ⟨y, hy, hxy⟩ := List.mem_flatMap.1 hx
    exact Rc.there hok.1 hD (.step (.base hy) hxy)
   refine Aw2 (AHb hok (by omega) hp (S := ps) (by omega) hpin (gi := gi) (mi := mi) (by rw [List.append_assoc, AwG h2]; exact hg) (by rw [List.append_assoc, AwG h3]; exact hm) rfl (fun K k0 k1 => ALl (ids := ps) (N := ps.length) (cs := ps.map idT) (by omega) (by rw [List.append_assoc, List.append_assoc, ABE rfl]; rfl) (AuG rfl) (by simp) k0 k1) (fun seen T' hnd hmem => ?_))
   simp -dsimp (disch := first | assumption | omega | (simp only [AsP]; done) | (simp only [AsP]; omega)) only [↓AsR, AsO, AsT, AsU, eq_self, forall_const, Nat.reduceLT, Nat.reduceEqDiff, Nat.reduceSub, Nat.reduceMul, Nat.reduceMod, Nat.reduceDiv, Nat.reducePow, UInt8.reduceToNat, Int.reduceEq, Int.reduceLT, Int.reduceLE, ↓reduceIte, Nat.reduceAdd, Int.reduceToNat, reduceCtorEq, Nat.reduceLeDiff, ↓Atk]
   rw [hps] at hmem
   have hb := AVt hok hD hmem
   refine Aw2 (ALa (ids := D) (p := fun x => seen.contains x) hcs hcl hw hcp (by omega) (by rw [List.append_assoc, List.append_assoc, AwG h4]; exact hid) (by simp [AyR, At1]) (by kernel_rfl) (fun x hx cs T2 K hK => ?_) fun cs' T2 e1 e2 => ?_)
   ·refine AYK (es := AGf seen) ?_ AGI x fun T3 => ?_
    ·have e : (H ++ [Ob.obj v (.arr ps.length 20 (ps.map idT))] ++ T).length = H.length + 1 + T.length := by simp; omega
     rw [AwG (by simp; omega), List.getElem?_set_ne (by simp; omega), ← e, List.getElem?_append_right (Nat.le_refl _), Nat.sub_self]
     rfl
    ·rw [ABa]
     exact hK T3
   ·rw [hb] at e2 ⊢
    simp -dsimp (disch := first | assumption | omega | (simp only [AsP]; done) | (simp only [AsP]; omega)) only [↓AsR, AsO, AsT, AsU, eq_self, forall_const, Nat.reduceLT, Nat.reduceEqDiff, Nat.reduceSub, Nat.reduceMul, Nat.reduceMod, Nat.reduceDiv, Nat.reducePow, UInt8.reduceToNat, Int.reduceEq, Int.reduceLT, Int.reduceLE, ↓reduceIte, Nat.reduceAdd, Int.reduceToNat, reduceCtorEq, Nat.reduceLeDiff, ↓Atk]
    refine h1 cs' _ ?_ e2 ?_
    ·simp only [List.append_assoc]
     rw [AwG (by simp; omega)]
     exact List.getElem?_set_self h4
    ·rw [e1]
     exact Nat.le_trans (List.length_filter_le _ _) hcl
theorem A0p {H : List Ob} {K : TV → List Ob → Prop} (hK : K (.tup []) H) : As1 Tryd.prog 45 [.val (.slice none 0 0), .val (.func (.func 46) #[] #[])] H K := by
 intro β F w vs hs hv
 obtain ⟨u, us, rfl, h2, h3⟩ := Atv.cons.1 hv
 obtain ⟨u2, us2, rfl, h4, h5⟩ := Atv.cons.1 h3
 rw [Atv.nil] at h5; subst h5
 have e1 : u = .slice none 0 0 := Rep.val.1 (Or.inl h2)
 have e2 : u2 = .func (.func 46) #[] #[] := Rep.val.1 (Or.inl h4)
 subst e1; subst e2
 refine (AnyF.slices_SortFunc_none Tryd.sortL none 0 (.func (.func 46) #[] #[]) w).mono ?_
 rintro _ _ ⟨rfl, rfl⟩
 exact ⟨_, _, β, _, F, rfl, hK, hs, Atb.refl _ _, .inr ⟨[], [], rfl, rfl, Atv.nil.2 rfl⟩⟩
theorem ASn {H : List Ob} {K : TV → List Ob → Prop} (hK : K (.val (.slice none 0 0)) H) : As1 Tryd.prog 48 [.val (.slice none 0 0)] H K := by
 refine Au2 (by simp) ?_
 simp -dsimp (disch := first | assumption | omega | (simp only [AsP]; done) | (simp only [AsP]; omega)) only [↓AsR, AsO, AsT, AsU, eq_self, forall_const, Nat.reduceLT, Nat.reduceEqDiff, Nat.reduceSub, Nat.reduceMul, Nat.reduceMod, Nat.reduceDiv, Nat.reducePow, UInt8.reduceToNat, Int.reduceEq, Int.reduceLT, Int.reduceLE, ↓reduceIte, Nat.reduceAdd, Int.reduceToNat, reduceCtorEq, Nat.reduceLeDiff, ↓As4]
 exact hK
theorem AMX {H : List Ob} {f : TV} (hf : At1 f = false) {K : TV → List Ob → Prop} (hK : K (i64 (-1)) H) : As1 Tryd.prog 58 [.val (.slice none 0 0), f] H K := by
 refine AtU (by simp) ?_
 simp -dsimp (disch := first | assumption | omega | (simp only [AsP]; done) | (simp only [AsP]; omega)) only [↓AsR, AsO, AsT, AsU, eq_self, forall_const, Nat.reduceLT, Nat.reduceEqDiff, Nat.reduceSub, Nat.reduceMul, Nat.reduceMod, Nat.reduceDiv, Nat.reducePow, UInt8.reduceToNat, Int.reduceEq, Int.reduceLT, Int.reduceLE, ↓reduceIte, Nat.reduceAdd, Int.reduceToNat, reduceCtorEq, Nat.reduceLeDiff, ↓AsW]
 refine At5 (fun q e H' => e = [(0, .val (.slice none 0 0)), (1, f), (7, i64 ((0 : Nat) : Int)), (8, i64 ((0 : Nat) : Int))] ∧ H = H') 0 ?_ ?_
 ·exact ⟨rfl, rfl⟩
 ·rintro q e H' ⟨rfl, rfl⟩
  simp -dsimp (disch := first | assumption | omega | (simp only [AsP]; done) | (simp only [AsP]; omega)) only [↓AsR, AsO, AsT, AsU, eq_self, forall_const, Nat.reduceLT, Nat.reduceEqDiff, Nat.reduceSub, Nat.reduceMul, Nat.reduceMod, Nat.reduceDiv, Nat.reducePow, UInt8.reduceToNat, Int.reduceEq, Int.reduceLT, Int.reduceLE, ↓reduceIte, Nat.reduceAdd, Int.reduceToNat, reduceCtorEq, Nat.reduceLeDiff, ↓AsW]
  exact hK
theorem ALr {H : List Ob} {f : TV} (hf : At1 f = false) {K : TV → List Ob → Prop} (hK : K (.val (.slice none 0 0)) H) : As1 Tryd.prog 49 [.val (.slice none 0 0), f] H K := by
 refine AuA (by simp) ?_
 simp -dsimp (disch := first | assumption | omega | (simp only [AsP]; done) | (simp only [AsP]; omega)) only [↓AsR, AsO, AsT, AsU, eq_self, forall_const, Nat.reduceLT, Nat.reduceEqDiff, Nat.reduceSub, Nat.reduceMul, Nat.reduceMod, Nat.reduceDiv, Nat.reducePow, UInt8.reduceToNat, Int.reduceEq, Int.reduceLT, Int.reduceLE, ↓reduceIte, Nat.reduceAdd, Int.reduceToNat, reduceCtorEq, Nat.reduceLeDiff, ↓As2, hf]
 refine Aw2 (AMX hf ?_)
 simp -dsimp (disch := first | assumption | omega | (simp only [AsP]; done) | (simp only [AsP]; omega)) only [↓AsR, AsO, AsT, AsU, eq_self, forall_const, Nat.reduceLT, Nat.reduceEqDiff, Nat.reduceSub, Nat.reduceMul, Nat.reduceMod, Nat.reduceDiv, Nat.reducePow, UInt8.reduceToNat, Int.reduceEq, Int.reduceLT, Int.reduceLE, ↓reduceIte, Nat.reduceAdd, Int.reduceToNat, reduceCtorEq, Nat.reduceLeDiff, ↓As2, hf]
 exact hK
theorem AKM {l : List Nd} (hok : GOk l) (hl : l.length ≤ 100) (hp : ∀ n ∈ l, n.ps.length ≤ 1000) {H : List Ob} {gi mi : Nat} (hg : H[gi]? = some (.obj 0 (.agg [.mp mi 0, .val (.map none)]))) (hm : H[mi]? = some (.mpo (.arr 20) (Att l))) {K : TV → List Ob → Prop}
  (h1 : ∀ H', K (.val (.slice none 0 0)) H') : vwp Tryd.prog At9 (AJg AuZ K) [(0, .op gi 0 []), (1, .val (.slice none 0 0))] H := by
 have h2 := Atm hg
 have h3 := Atm hm
 simp -dsimp (disch := first | assumption | omega | (simp only [AsP]; done) | (simp only [AsP]; omega)) only [↓AsR, AsO, AsT, AsU, eq_self, forall_const, Nat.reduceLT, Nat.reduceEqDiff, Nat.reduceSub, Nat.reduceMul, Nat.reduceMod, Nat.reduceDiv, Nat.reducePow, UInt8.reduceToNat, Int.reduceEq, Int.reduceLT, Int.reduceLE, ↓reduceIte, Nat.reduceAdd, Int.reduceToNat, reduceCtorEq, Nat.reduceLeDiff, ↓Atk]
 refine At5 (fun q e H' => e = [(0, .op gi 0 []), (1, .val (.slice none 0 0)), (5, .os 20 H.length 0 [] 0 0 0), (15, .val (.slice none 0 0)), (16, i64 ((0 : Nat) : Int)), (17, i64 ((0 : Nat) : Int))] ∧ H' = H ++ [.obj 0 (.arr 0 20 [])]) 0 ?_ ?_
 ·exact ⟨by simp [forget, get], rfl⟩
 ·rintro q e H' ⟨rfl, rfl⟩
  simp -dsimp (disch := first | assumption | omega | (simp only [AsP]; done) | (simp only [AsP]; omega)) only [↓AsR, AsO, AsT, AsU, eq_self, forall_const, Nat.reduceLT, Nat.reduceEqDiff, Nat.reduceSub, Nat.reduceMul, Nat.reduceMod, Nat.reduceDiv, Nat.reducePow, UInt8.reduceToNat, Int.reduceEq, Int.reduceLT, Int.reduceLE, ↓reduceIte, Nat.reduceAdd, Int.reduceToNat, reduceCtorEq, Nat.reduceLeDiff, ↓Atk]
  refine Aw2 (AHb hok (by omega) hp (S := []) (by simp) (by simp) (gi := gi) (mi := mi) (by rw [AwG h2]; exact hg) (by rw [AwG h3]; exact hm) rfl (fun K k0 k1 => ALl (ids := []) (N := 0) (cs := []) (by simp) (by rw [List.append_assoc, ABE rfl]; rfl) rfl (by simp) k0 k1) (fun seen T' hnd hmem => ?_))
  simp -dsimp (disch := first | assumption | omega | (simp only [AsP]; done) | (simp only [AsP]; omega)) only [↓AsR, AsO, AsT, AsU, eq_self, forall_const, Nat.reduceLT, Nat.reduceEqDiff, Nat.reduceSub, Nat.reduceMul, Nat.reduceMod, Nat.reduceDiv, Nat.reducePow, UInt8.reduceToNat, Int.reduceEq, Int.reduceLT, Int.reduceLE, ↓reduceIte, Nat.reduceAdd, Int.reduceToNat, reduceCtorEq, Nat.reduceLeDiff, ↓Atk]
  refine Aw2 (ALr rfl ?_)
  simp -dsimp (disch := first | assumption | omega | (simp only [AsP]; done) | (simp only [AsP]; omega)) only [↓AsR, AsO, AsT, AsU, eq_self, forall_const, Nat.reduceLT, Nat.reduceEqDiff, Nat.reduceSub, Nat.reduceMul, Nat.reduceMod, Nat.reduceDiv, Nat.reducePow, UInt8.reduceToNat, Int.reduceEq, Int.reduceLT, Int.reduceLE, ↓reduceIte, Nat.reduceAdd, Int.reduceToNat, reduceCtorEq, Nat.reduceLeDiff, ↓Atk]
  exact h1 _
theorem ANP {l : List Nd} (hok : GOk l) (hl : l.length ≤ 100) (hp : ∀ n ∈ l, n.ps.length ≤ 1000) {S : List (List UInt8)} (hlen : S.length ≤ 100000) (hS : ∀ x ∈ S, x ∈ As8 l) {H : List Ob} {gi mi : Nat} (hg : H[gi]? = some (.obj 0 (.agg [.mp mi 0, .val (.map none)]))) (hm : H[mi]? = some (.mpo (.arr 20) (Att l))) {A : TV} (hA1 : At1 A = false)
  (hA : ∀ K : TV → List Ob → Prop, (S = [] → K (.val (.slice none 0 0)) H) → K (.os 20 H.length 1 [] 0 S.length S.length) (H ++ [.obj 1 (.arr S.length 20 (S.map idT))]) → As1 Tryd.prog 38 [A] H K) {K : TV → List Ob → Prop}
  (h0 : S = [] → ∀ H', K (.val (.slice none 0 0)) H') (h1 : ∀ id N cp cs H', H'[id]? = some (.obj 1 (.arr N 20 cs)) → cs.take (AEN l (dd (AwA S))).length = (AEN l (dd (AwA S))).map idT → (AEN l (dd (AwA S))).length ≤ cs.length → K (.os 20 id 1 [] 0 (AEN l (dd (AwA S))).length cp) H') : As1 Tryd.prog 33 [.op gi 0 [], A] H K := by
 have h2 := Atm hg
 have h3 := Atm hm
 refine ABG (by simp) ?_
 simp -dsimp (disch := first | assumption | omega | (simp only [AsP]; done) | (simp only [AsP]; omega)) only [↓AsR, AsO, AsT, AsU, eq_self, forall_const, Nat.reduceLT, Nat.reduceEqDiff, Nat.reduceSub, Nat.reduceMul, Nat.reduceMod, Nat.reduceDiv, Nat.reducePow, UInt8.reduceToNat, Int.reduceEq, Int.reduceLT, Int.reduceLE, ↓reduceIte, Nat.reduceAdd, Int.reduceToNat, reduceCtorEq, Nat.reduceLeDiff, ↓Atk, hA1]
 refine Aw2 (hA _ (fun hS0 => ?_) ?_)
 ·subst hS0
  simp -dsimp (disch := first | assumption | omega | (simp only [AsP]; done) | (simp only [AsP]; omega)) only [↓AsR, AsO, AsT, AsU, eq_self, forall_const, Nat.reduceLT, Nat.reduceEqDiff, Nat.reduceSub, Nat.reduceMul, Nat.reduceMod, Nat.reduceDiv, Nat.reducePow, UInt8.reduceToNat, Int.reduceEq, Int.reduceLT, Int.reduceLE, ↓reduceIte, Nat.reduceAdd, Int.reduceToNat, reduceCtorEq, Nat.reduceLeDiff, ↓AuB, ↓AuV]
  refine Aw2 (A0p ?_)
  simp -dsimp (disch := first | assumption | omega | (simp only [AsP]; done) | (simp only [AsP]; omega)) only [↓AsR, AsO, AsT, AsU, eq_self, forall_const, Nat.reduceLT, Nat.reduceEqDiff, Nat.reduceSub, Nat.reduceMul, Nat.reduceMod, Nat.reduceDiv, Nat.reducePow, UInt8.reduceToNat, Int.reduceEq, Int.reduceLT, Int.reduceLE, ↓reduceIte, Nat.reduceAdd, Int.reduceToNat, reduceCtorEq, Nat.reduceLeDiff, ↓AuU]
  refine Aw2 (ASn ?_)
  simp -dsimp (disch := first | assumption | omega | (simp only [AsP]; done) | (simp only [AsP]; omega)) only [↓AsR, AsO, AsT, AsU, eq_self, forall_const, Nat.reduceLT, Nat.reduceEqDiff, Nat.reduceSub, Nat.reduceMul, Nat.reduceMod, Nat.reduceDiv, Nat.reducePow, UInt8.reduceToNat, Int.reduceEq, Int.reduceLT, Int.reduceLE, ↓reduceIte, Nat.reduceAdd, Int.reduceToNat, reduceCtorEq, Nat.reduceLeDiff]
  exact AKM hok hl hp hg hm (h0 rfl)
 ·simp -dsimp (disch := first | assumption | omega | (simp only [AsP]; done) | (simp only [AsP]; omega)) only [↓AsR, AsO, AsT, AsU, eq_self, forall_const, Nat.reduceLT, Nat.reduceEqDiff, Nat.reduceSub, Nat.reduceMul, Nat.reduceMod, Nat.reduceDiv, Nat.reducePow, UInt8.reduceToNat, Int.reduceEq, Int.reduceLT, Int.reduceLE, ↓reduceIte, Nat.reduceAdd, Int.reduceToNat, reduceCtorEq, Nat.reduceLeDiff, ↓AuB, ↓AuV]
  refine Aw2 (AZM (id := H.length) (ver := 1) (N := S.length) (by rw [ABE rfl]; rfl) hlen ?_)
  rw [← AKQ S]
  simp -dsimp (disch := first | assumption | omega | (simp only [AsP]; done) | (simp only [AsP]; omega)) only [↓AsR, AsO, AsT, AsU, eq_self, forall_const, Nat.reduceLT, Nat.reduceEqDiff, Nat.reduceSub, Nat.reduceMul, Nat.reduceMod, Nat.reduceDiv, Nat.reducePow, UInt8.reduceToNat, Int.reduceEq, Int.reduceLT, Int.reduceLE, ↓reduceIte, Nat.reduceAdd, Int.reduceToNat, reduceCtorEq, Nat.reduceLeDiff, ↓AuU]
  refine Aw2 (ASp (d := AwA S) (by rw [AKQ]; exact hlen) (Nat.le_refl _) (by rw [ABE rfl]; rfl) fun cs e1 e2 e3 => ?_)
  simp -dsimp (disch := first | assumption | omega | (simp only [AsP]; done) | (simp only [AsP]; omega)) only [↓AsR, AsO, AsT, AsU, eq_self, forall_const, Nat.reduceLT, Nat.reduceEqDiff, Nat.reduceSub, Nat.reduceMul, Nat.reduceMod, Nat.reduceDiv, Nat.reducePow, UInt8.reduceToNat, Int.reduceEq, Int.reduceLT, Int.reduceLE, ↓reduceIte, Nat.reduceAdd, Int.reduceToNat, reduceCtorEq, Nat.reduceLeDiff]
  have hD : ∀ x ∈ dd (AwA S), x ∈ As8 l := fun x hx => hS x ((AHm S x).1 ((AIt x).1 hx))
  have hDl : (dd (AwA S)).length ≤ l.length := by
   have := Axm (AP1 (AFK S)).nodup hD
   simpa [As8] using this
  have hDS : (dd (AwA S)).length ≤ cs.length := by
   have := congrArg List.length e2
   rw [List.length_take, List.length_map] at this
   omega
  exact AK4 hok hl hp (by omega) hD (by rw [AwG h2]; exact hg) (by rw [AwG h3]; exact hm) (by rw [ABE rfl]; rfl) e2 hDS (by omega) e3 fun cs' H' k1 k2 k3 => h1 _ _ _ _ _ k1 k2 k3
end Go.Proofs.YtingoaihnlhiaaaDoor


namespace Go.Proofs.YtingoaihnlhiaaaDoor
open Go.RowKit
variable [AtT]
set_option linter.unusedSectionVars false
set_option linter.unusedVariables false

variable {P : Program}
/-- A CALL THAT LEAVES NOTHING BEHIND, AND YIELDS NEW MEMORY ALONE, or ends in a panic. -/
def ALn (P : Program) (f : FuncId) (args : List TV) (R : TV → Prop) (RP : Value → Prop) : Prop :=
 ∀ (β : Nat → Nat → Option (Nat × Nat)) (F : Nat → Prop) (w : World) (vs : List Value), ((∀ b, F b → b < w.heap.size) ∧ Ax2 F w) → Atv ⟨β, [], F⟩ w args vs →
  Calls P f vs.toArray w fun e w' => ∃ F', ACc F w F' w' ∧ ((∃ v x, e = .returned v ∧ R x ∧ Rep ⟨β, [], fun b => F' b ∧ w.heap.size ≤ b⟩ w' x v) ∨ ∃ u, e = .panicked [{ v := u, recovered := false }] ∧ RP u)
theorem ALn.mono {f : FuncId} {args : List TV} {R R' : TV → Prop} {RP RP' : Value → Prop} (h : ALn P f args R RP) (hr : ∀ x, R x → R' x) (hp : ∀ u, RP u → RP' u) : ALn P f args R' RP' :=
 fun β F w vs hF hv => (h β F w vs hF hv).mono fun _ _ ⟨F', h1, h2⟩ => ⟨F', h1, h2.imp (fun ⟨v, x, k1, k2, k3⟩ => ⟨v, x, k1, hr _ k2, k3⟩) fun ⟨u, k1, k2⟩ => ⟨u, k1, hp _ k2⟩⟩

def AOB (x x' : TV) : Prop := ∀ (c : Ctx) (w : World) (v : Value), AJB c w x v → AJB c w x' v
inductive AGs : List TV → List TV → Prop
 | nil : AGs [] []
 | cons {x x' : TV} {xs xs' : List TV} : AOB x x' → AGs xs xs' → AGs (x :: xs) (x' :: xs')
theorem AOB.refl {x : TV} : AOB x x := fun _ _ _ h => h
theorem AGs.refl : ∀ {xs : List TV}, AGs xs xs
 | [] => .nil
 | _ :: _ => .cons AOB.refl AGs.refl
theorem AGs.rep {c : Ctx} {w : World} {xs xs' : List TV} (h : AGs xs xs') : ∀ {vs : List Value}, Atv c w xs vs → Atv c w xs' vs := by
 induction h with
 | nil => exact fun h => h
 | cons h1 h2 ih =>
  intro vs hv
  rw [Atv.cons] at hv ⊢
  obtain ⟨u, us, rfl, k1, k2⟩ := hv
  exact ⟨u, us, rfl, h1 _ _ _ k1, ih k2⟩
/-- No slice is an empty one. -/
theorem AQC {k : Nat} : AOB (.val (.slice none 0 0)) (.sl k []) := fun c w v h => by
 have hv : v = .slice none 0 0 := by
  have h' : Rep c w (.val (.slice none 0 0)) v := .inl h
  rw [Rep.val] at h'; exact h'
 subst hv
 refine .inr (.inr ⟨[.slice none 0 0], ?_, rfl⟩)
 rw [AsV]
 exact ⟨by simp, .inl ⟨rfl, none, 0, rfl, by omega⟩⟩
/-- A result may be read in another way. -/
theorem Avh.conv {f : FuncId} {args : List TV} {R R' : TV → Prop} (h : Avh P f args R) (hc : ∀ x, R x → ∃ x', R' x' ∧ ∀ c w v, Rep c w x v → Rep c w x' v) : Avh P f args R' :=
 fun β F w vs hF hv => (h β F w vs hF hv).mono fun _ _ ⟨v, x, F', h1, h2, h3, h4⟩ => by
  obtain ⟨x', k1, k2⟩ := hc x h2
  exact ⟨v, x', F', h1, k1, k2 _ _ _ h3, h4⟩
theorem AGs.tup {xs xs' : List TV} (h : AGs xs xs') : ∀ (c : Ctx) (w : World) (v : Value), Rep c w (.tup xs) v → Rep c w (.tup xs') v := by
 rintro c w v ((h1 | h1 | ⟨us, h1, _⟩) | ⟨ys, vs, h1, h2, h3⟩)
 ·cases h1
 ·cases h1
 ·rw [AsV] at h1; exact h1.elim
 ·cases h1
  exact .inr ⟨xs', vs, rfl, h2, h.rep h3⟩
end Go.Proofs.YtingoaihnlhiaaaDoor


namespace Go.Proofs.YtingoaihnlhiaaaDoor
open Go.RowKit
variable [AtT]
set_option linter.unusedSectionVars false
set_option linter.unusedVariables false
set_option linter.unusedSimpArgs false

/-- A slice of ids, maybe no slice where there are none. -/
def Ids (s : List (List UInt8)) (x : TV) : Prop := x = .sl 20 (s.map idT) ∨ (s = [] ∧ x = .val (.slice none 0 0))
theorem Ids.conv {s : List (List UInt8)} {x y : TV} (h : Ids s x) (c : Ctx) (w : World) (v : Value) (hv : Rep c w (.tup [x, y]) v) : Rep c w (.tup [.sl 20 (s.map idT), y]) v := by
 rcases h with rfl | ⟨rfl, rfl⟩
 ·exact hv
 ·exact AGs.tup (.cons AQC AGs.refl) c w v hv
theorem AQv (l : List Nd) (hl : l.length ≤ 100) (hp : ∀ n ∈ l, n.ps.length ≤ 1000) (s : List (List UInt8)) (hlen : s.length ≤ 100000) : Avh Tryd.prog 17 [.sl 22 (l.map ndT), .sl 20 (s.map idT)] (fun r =>
  (AAy l s → ∃ x, Ids (AEN l (dd (AwA s))) x ∧ r = .tup [x, .val .nilIface]) ∧ (¬ AAy l s → r = .tup [.val (.slice none 0 0), .ifc 36 (i64 ((80 : Nat) : Int))])) := by
 refine As1.toPureV (AHf (by simp) ?_)
 simp -dsimp (disch := first | assumption | omega | (simp only [AsP]; done) | (simp only [AsP]; omega)) only [↓AsR, AsO, AsT, AsU, eq_self, forall_const, Nat.reduceLT, Nat.reduceEqDiff, Nat.reduceSub, Nat.reduceMul, Nat.reduceMod, Nat.reduceDiv, Nat.reducePow, UInt8.reduceToNat, Int.reduceEq, Int.reduceLT, Int.reduceLE, ↓reduceIte, Nat.reduceAdd, Int.reduceToNat, reduceCtorEq, Nat.reduceLeDiff, ↓AvH]
 refine Aw2 (ofH l (by omega) hp s hlen (fun hok T => ?_) (fun hno g H' => ?_))
 ·simp -dsimp (disch := first | assumption | omega | (simp only [AsP]; done) | (simp only [AsP]; omega)) only [↓AsR, AsO, AsT, AsU, eq_self, forall_const, Nat.reduceLT, Nat.reduceEqDiff, Nat.reduceSub, Nat.reduceMul, Nat.reduceMod, Nat.reduceDiv, Nat.reducePow, UInt8.reduceToNat, Int.reduceEq, Int.reduceLT, Int.reduceLE, ↓reduceIte, Nat.reduceAdd, Int.reduceToNat, reduceCtorEq, Nat.reduceLeDiff, ↓AvH]
  have hin : ∀ x ∈ s, x ∈ As8 l := fun x hx => Aut.1 (List.all_eq_true.1 hok.2 x hx)
  refine Aw2 (ANP hok.1 hl hp hlen hin (gi := 1) (mi := 0) rfl rfl rfl (fun K k0 k1 => ATl hlen k0 k1) (fun h0 H' => ?_) (fun id N cp cs H' e1 e2 e3 => ?_))
  ·simp -dsimp (disch := first | assumption | omega | (simp only [AsP]; done) | (simp only [AsP]; omega)) only [↓AsR, AsO, AsT, AsU, eq_self, forall_const, Nat.reduceLT, Nat.reduceEqDiff, Nat.reduceSub, Nat.reduceMul, Nat.reduceMod, Nat.reduceDiv, Nat.reducePow, UInt8.reduceToNat, Int.reduceEq, Int.reduceLT, Int.reduceLE, ↓reduceIte, Nat.reduceAdd, Int.reduceToNat, reduceCtorEq, Nat.reduceLeDiff, ↓AvH]
   exact ⟨fun _ => ⟨_, .inr ⟨by subst h0; simp [AwA, dd, AEN], rfl⟩, rfl⟩, fun h => absurd hok h⟩
  ·simp -dsimp (disch := first | assumption | omega | (simp only [AsP]; done) | (simp only [AsP]; omega)) only [↓AsR, AsO, AsT, AsU, eq_self, forall_const, Nat.reduceLT, Nat.reduceEqDiff, Nat.reduceSub, Nat.reduceMul, Nat.reduceMod, Nat.reduceDiv, Nat.reducePow, UInt8.reduceToNat, Int.reduceEq, Int.reduceLT, Int.reduceLE, ↓reduceIte, Nat.reduceAdd, Int.reduceToNat, reduceCtorEq, Nat.reduceLeDiff, ↓AvH, e1, e2]
   exact ⟨fun _ => ⟨_, .inl rfl, rfl⟩, fun h => absurd hok h⟩
 ·simp -dsimp (disch := first | assumption | omega | (simp only [AsP]; done) | (simp only [AsP]; omega)) only [↓AsR, AsO, AsT, AsU, eq_self, forall_const, Nat.reduceLT, Nat.reduceEqDiff, Nat.reduceSub, Nat.reduceMul, Nat.reduceMod, Nat.reduceDiv, Nat.reducePow, UInt8.reduceToNat, Int.reduceEq, Int.reduceLT, Int.reduceLE, ↓reduceIte, Nat.reduceAdd, Int.reduceToNat, reduceCtorEq, Nat.reduceLeDiff, ↓AvH]
  exact ⟨fun h => absurd h hno, fun _ => trivial⟩
theorem AQZ {n : Nat} {k : List UInt8} : kTV (.arr n) k = .arr n 1 (k.map by8) := by rw [kTV]
theorem AKc {es : List (List UInt8 × TV)} {z : Nat × List UInt8 × TV} : z ∈ AxJ 0 es ↔ es[z.1]? = some z.2 := by
 constructor
 ·intro h
  obtain ⟨j, hj⟩ := List.getElem?_of_mem h
  rw [AFm] at hj
  obtain ⟨e, he, rfl⟩ := Option.map_eq_some_iff.1 hj
  simpa using he
 ·intro h
  refine List.mem_of_getElem? (i := z.1) ?_
  rw [AFm, h]
  simp
theorem AOv {X : List (List UInt8)} {z : Nat × List UInt8 × TV} (h : z ∈ AxJ 0 (AGf X)) : X[z.1]? = some z.2.1 ∧ z.2.2 = .agg [] := by
 rw [AKc, AGf, List.getElem?_map] at h
 obtain ⟨k, hk, e⟩ := Option.map_eq_some_iff.1 h
 rw [hk, ← e]; exact ⟨rfl, rfl⟩
theorem AMT {l : List Nd} (hok : GOk l) (hl : l.length ≤ 100) (hp : ∀ n ∈ l, n.ps.length ≤ 1000) {X Y : List (List UInt8)} (hX : X.length ≤ 100) (hXl : ∀ x ∈ X, x ∈ As8 l) {H : List Ob} {gi mi mx my : Nat} (hg : H[gi]? = some (.obj 0 (.agg [.mp mi 0, .val (.map none)]))) (hm : H[mi]? = some (.mpo (.arr 20) (Att l)))
  (hx : H[mx]? = some (.mpo (.arr 20) (AGf X))) (hy : H[my]? = some (.mpo (.arr 20) (AGf Y))) {K : TV → List Ob → Prop}
  (h1 : ∀ H', (∀ z, ¬ (z ∈ X ∧ z ∈ Y)) → K (.tup [.val (.slice none 0 0), .val .nilIface]) H')
  (h2 : ∀ s id N cp cs H', (∀ z, z ∈ s ↔ z ∈ X ∧ z ∈ Y) → H'[id]? = some (.obj 1 (.arr N 20 cs)) → cs.take (AEN l (dd (AwA s))).length = (AEN l (dd (AwA s))).map idT → (AEN l (dd (AwA s))).length ≤ cs.length → K (.tup [.os 20 id 1 [] 0 (AEN l (dd (AwA s))).length cp, .val .nilIface]) H') :
  vwp Tryd.prog Axk (AJg Ay9 K) [(8, .op gi 0 []), (10, .mp mx 0), (11, .mp my 0)] H := by
 have k1 := Atm hg
 have k2 := Atm hm
 have k3 := Atm hx
 have k4 := Atm hy
 have hcl : (AGf X).length = X.length := by simp [AGf]
 simp -dsimp (disch := first | assumption | omega | (simp only [AsP]; done) | (simp only [AsP]; omega)) only [↓AsR, AsO, AsT, AsU, eq_self, forall_const, Nat.reduceLT, Nat.reduceEqDiff, Nat.reduceSub, Nat.reduceMul, Nat.reduceMod, Nat.reduceDiv, Nat.reducePow, UInt8.reduceToNat, Int.reduceEq, Int.reduceLT, Int.reduceLE, ↓reduceIte, Nat.reduceAdd, Int.reduceToNat, reduceCtorEq, Nat.reduceLeDiff, ↓At8, hx, hcl]
 refine At5 (fun q e H' => ∃ (sn : List Nat) (v cp : Nat) (out : List (List UInt8)) (T : List Ob), q = X.length - sn.length ∧ sn.Nodup ∧ (∀ s ∈ sn, s < X.length) ∧ (∀ z, z ∈ out ↔ z ∈ Y ∧ ∃ s ∈ sn, X[s]? = some z) ∧ out.length ≤ sn.length ∧ out.length ≤ cp ∧
  e = [(8, .op gi 0 []), (11, .mp my 0), (12, .os 20 (H.length + 1) v [] 0 out.length cp), (34, .op H.length 0 [])] ∧ H' = H ++ [.mit mx sn X.length, .obj v (.arr out.length 20 (out.map idT))] ++ T) X.length ?_ ?_
 ·exact ⟨[], 0, 0, [], [], by simp, by simp, by simp, by simp, by simp, by simp, by simp [forget, get], by simp⟩
 ·rintro q e H' ⟨sn, v, cp, out, T, rfl, hnd, hsn, hout, hol, hcp, rfl, rfl⟩
  have hsnl : sn.length ≤ X.length := by
   have := Axm (d := sn) (e := List.range X.length) hnd fun s hs => List.mem_range.2 (hsn s hs)
   simpa using this
  have e1 : (H ++ [Ob.mit mx sn X.length, .obj v (.arr out.length 20 (out.map idT))] ++ T)[H.length]? = some (.mit mx sn X.length) := by rw [List.append_assoc, ABE rfl]; rfl
  have e2 : (H ++ [Ob.mit mx sn X.length, .obj v (.arr out.length 20 (out.map idT))] ++ T)[mx]? = some (.mpo (.arr 20) (AGf X)) := by rw [List.append_assoc, AwG k3]; exact hx
  simp -dsimp (disch := first | assumption | omega | (simp only [AsP]; done) | (simp only [AsP]; omega)) only [↓AsR, AsO, AsT, AsU, eq_self, forall_const, Nat.reduceLT, Nat.reduceEqDiff, Nat.reduceSub, Nat.reduceMul, Nat.reduceMod, Nat.reduceDiv, Nat.reducePow, UInt8.reduceToNat, Int.reduceEq, Int.reduceLT, Int.reduceLE, ↓reduceIte, Nat.reduceAdd, Int.reduceToNat, reduceCtorEq, Nat.reduceLeDiff, ↓At8, e1, e2, hcl]
  refine AMQ rfl (fun z hz => ?_) (fun z hz hzn => ?_) (fun hall => ?_)
  ·have := (Atm (AOv hz).1); exact this
  ·obtain ⟨hzx, hzv⟩ := AOv hz
   have hent : AOW (mx, sn ++ [z.1], X.length) (.arr 20, AxJ 0 (AGf X), X.length) = some (.tup [kTV (.arr 20) z.2.1, z.2.2]) := AMt (by rw [ABV]; exact List.nodup_range') hz
   rw [AQZ, hzv] at hent
   have hset : (H ++ [Ob.mit mx sn X.length, .obj v (.arr out.length 20 (out.map idT))] ++ T).set H.length (.mit mx (sn ++ [z.1]) X.length) = H ++ [Ob.mit mx (sn ++ [z.1]) X.length, .obj v (.arr out.length 20 (out.map idT))] ++ T := by simp
   rw [hset]
   have e3 : (H ++ [Ob.mit mx (sn ++ [z.1]) X.length, .obj v (.arr out.length 20 (out.map idT))] ++ T)[H.length]? = some (.mit mx (sn ++ [z.1]) X.length) := by rw [List.append_assoc, ABE rfl]; rfl
   have e4 : (H ++ [Ob.mit mx (sn ++ [z.1]) X.length, .obj v (.arr out.length 20 (out.map idT))] ++ T)[mx]? = some (.mpo (.arr 20) (AGf X)) := by rw [List.append_assoc, AwG k3]; exact hx
   simp -dsimp (disch := first | assumption | omega | (simp only [AsP]; done) | (simp only [AsP]; omega)) only [↓AsR, AsO, AsT, AsU, eq_self, forall_const, Nat.reduceLT, Nat.reduceEqDiff, Nat.reduceSub, Nat.reduceMul, Nat.reduceMod, Nat.reduceDiv, Nat.reducePow, UInt8.reduceToNat, Int.reduceEq, Int.reduceLT, Int.reduceLE, ↓reduceIte, Nat.reduceAdd, Int.reduceToNat, reduceCtorEq, Nat.reduceLeDiff, ↓At8, e3, e4, hcl, hent]
   rw [← As9]
   refine Aw2 (AYK (es := AGf Y) (by rw [List.append_assoc, List.append_assoc, AwG k4]; exact hy) AGI z.2.1 fun T' => ?_)
   rw [ABa]
   have hnd' : (sn ++ [z.1]).Nodup := by
    rw [List.nodup_append]
    exact ⟨hnd, by simp, fun a ha b hb e => by rw [List.mem_singleton] at hb; subst hb; subst e; exact hzn ha⟩
   have hsn' : ∀ s ∈ sn ++ [z.1], s < X.length := fun s hs => by
    rcases List.mem_append.1 hs with hs | hs
    ·exact hsn s hs
    ·rw [List.mem_singleton.1 hs]; exact Atm hzx
   have hle : (sn ++ [z.1]).length ≤ X.length := by
    have := Axm (d := sn ++ [z.1]) (e := List.range X.length) hnd' fun s hs => List.mem_range.2 (hsn' s hs)
    simpa using this
   rw [List.length_append, List.length_singleton] at hle
   by_cases hc : z.2.1 ∈ Y
   ·have hc' : Y.contains z.2.1 = true := by simpa using hc
    rw [hc']
    have htk : (out.map idT).take out.length = out.map idT := AuG rfl
    simp -dsimp (disch := first | assumption | omega | (simp only [AsP]; done) | (simp only [AsP]; omega)) only [↓AsR, AsO, AsT, AsU, eq_self, forall_const, Nat.reduceLT, Nat.reduceEqDiff, Nat.reduceSub, Nat.reduceMul, Nat.reduceMod, Nat.reduceDiv, Nat.reducePow, UInt8.reduceToNat, Int.reduceEq, Int.reduceLT, Int.reduceLE, ↓reduceIte, Nat.reduceAdd, Int.reduceToNat, reduceCtorEq, Nat.reduceLeDiff, ↓At8, AxS, As9, htk, Aw3]
    refine Atd (X.length - (sn.length + 1)) (by omega) (by simp; omega) ⟨sn ++ [z.1], v + 1, _, out ++ [z.2.1], _, by simp, hnd', hsn', fun y => ?_, by simp; omega, Nat.le_refl _, by simp [forget, get], by simp [As9]; rfl⟩
    rw [List.mem_append, List.mem_singleton, hout y]
    constructor
    ·rintro (⟨h1, s, h2, h3⟩ | rfl)
     ·exact ⟨h1, s, List.mem_append_left _ h2, h3⟩
     ·exact ⟨hc, z.1, by simp, hzx⟩
    ·rintro ⟨h1, s, h2, h3⟩
     rcases List.mem_append.1 h2 with h2 | h2
     ·exact .inl ⟨h1, s, h2, h3⟩
     ·rw [List.mem_singleton.1 h2, hzx] at h3; cases h3; exact .inr rfl
   ·have hc' : Y.contains z.2.1 = false := by simpa using hc
    rw [hc']
    simp -dsimp (disch := first | assumption | omega | (simp only [AsP]; done) | (simp only [AsP]; omega)) only [↓AsR, AsO, AsT, AsU, eq_self, forall_const, Nat.reduceLT, Nat.reduceEqDiff, Nat.reduceSub, Nat.reduceMul, Nat.reduceMod, Nat.reduceDiv, Nat.reducePow, UInt8.reduceToNat, Int.reduceEq, Int.reduceLT, Int.reduceLE, ↓reduceIte, Nat.reduceAdd, Int.reduceToNat, reduceCtorEq, Nat.reduceLeDiff, ↓At8]
    refine Atd (X.length - (sn.length + 1)) (by omega) (by simp; omega) ⟨sn ++ [z.1], v, cp, out, _, by simp, hnd', hsn', fun y => ?_, by simp; omega, hcp, by simp [forget, get], by simp; rfl⟩
    rw [hout y]
    constructor
    ·rintro ⟨h1, s, h2, h3⟩
     exact ⟨h1, s, List.mem_append_left _ h2, h3⟩
    ·rintro ⟨h1, s, h2, h3⟩
     rcases List.mem_append.1 h2 with h2 | h2
     ·exact ⟨h1, s, h2, h3⟩
     ·rw [List.mem_singleton.1 h2, hzx] at h3; cases h3; exact absurd h1 hc
  ·have hmem : ∀ z, z ∈ out ↔ z ∈ X ∧ z ∈ Y := fun z => by
    rw [hout z, and_comm]
    refine and_congr ⟨fun ⟨s, _, h⟩ => List.mem_of_getElem? h, fun h => ?_⟩ Iff.rfl
    obtain ⟨i, hi⟩ := List.getElem?_of_mem h
    refine ⟨i, hall (i, z, .agg []) ?_, hi⟩
    rw [AKc, AGf, List.getElem?_map]
    show (X[i]?).map _ = _
    rw [hi]; rfl
   simp -dsimp (disch := first | assumption | omega | (simp only [AsP]; done) | (simp only [AsP]; omega)) only [↓AsR, AsO, AsT, AsU, eq_self, forall_const, Nat.reduceLT, Nat.reduceEqDiff, Nat.reduceSub, Nat.reduceMul, Nat.reduceMod, Nat.reduceDiv, Nat.reducePow, UInt8.reduceToNat, Int.reduceEq, Int.reduceLT, Int.reduceLE, ↓reduceIte, Nat.reduceAdd, Int.reduceToNat, reduceCtorEq, Nat.reduceLeDiff, ↓At8]
   refine Aw2 (ANP hok hl hp (S := out) (by omega) (fun x hx => hXl x ((hmem x).1 hx).1) (gi := gi) (mi := mi) (by rw [List.append_assoc, AwG k1]; exact hg) (by rw [List.append_assoc, AwG k2]; exact hm) rfl (fun K c0 c1 => ALl (ids := out) (N := out.length) (cs := out.map idT) (by omega) (by rw [List.append_assoc, List.getElem?_append_right (by omega)]; simp) (AuG rfl) (by simp) c0 c1) (fun h0 H' => ?_) (fun id N cp cs H' q1 q2 q3 => ?_))
   ·simp -dsimp (disch := first | assumption | omega | (simp only [AsP]; done) | (simp only [AsP]; omega)) only [↓AsR, AsO, AsT, AsU, eq_self, forall_const, Nat.reduceLT, Nat.reduceEqDiff, Nat.reduceSub, Nat.reduceMul, Nat.reduceMod, Nat.reduceDiv, Nat.reducePow, UInt8.reduceToNat, Int.reduceEq, Int.reduceLT, Int.reduceLE, ↓reduceIte, Nat.reduceAdd, Int.reduceToNat, reduceCtorEq, Nat.reduceLeDiff, ↓At8]
    exact h1 _ fun z hz => by rw [h0] at hmem; exact absurd ((hmem z).2 hz) (by simp)
   ·simp -dsimp (disch := first | assumption | omega | (simp only [AsP]; done) | (simp only [AsP]; omega)) only [↓AsR, AsO, AsT, AsU, eq_self, forall_const, Nat.reduceLT, Nat.reduceEqDiff, Nat.reduceSub, Nat.reduceMul, Nat.reduceMod, Nat.reduceDiv, Nat.reducePow, UInt8.reduceToNat, Int.reduceEq, Int.reduceLT, Int.reduceLE, ↓reduceIte, Nat.reduceAdd, Int.reduceToNat, reduceCtorEq, Nat.reduceLeDiff, ↓At8]
    exact h2 out _ _ _ _ _ hmem q1 q2 q3
theorem AUS (l : List Nd) (hl : l.length ≤ 100) (hp : ∀ n ∈ l, n.ps.length ≤ 1000) (a b : List UInt8) : Avh Tryd.prog 15 [.sl 22 (l.map ndT), idT a, idT b] (fun r =>
  (AAy l [a, b] → ∃ s x, (∀ z, z ∈ s ↔ Rc l [a] z ∧ Rc l [b] z) ∧ Ids (AEN l (dd (AwA s))) x ∧ r = .tup [x, .val .nilIface]) ∧ (¬ AAy l [a, b] → r = .tup [.val (.slice none 0 0), .ifc 36 (i64 ((80 : Nat) : Int))])) := by
 refine As1.toPureV (AH6 (by simp) ?_)
 simp -dsimp (disch := first | assumption | omega | (simp only [AsP]; done) | (simp only [AsP]; omega)) only [↓AsR, AsO, AsT, AsU, eq_self, forall_const, Nat.reduceLT, Nat.reduceEqDiff, Nat.reduceSub, Nat.reduceMul, Nat.reduceMod, Nat.reduceDiv, Nat.reducePow, UInt8.reduceToNat, Int.reduceEq, Int.reduceLT, Int.reduceLE, ↓reduceIte, Nat.reduceAdd, Int.reduceToNat, reduceCtorEq, Nat.reduceLeDiff, ↓AxU, ↓Aww, As9]
 refine AHk (by rfl) (by rfl) (by simp) ?_
 simp -dsimp (disch := first | assumption | omega | (simp only [AsP]; done) | (simp only [AsP]; omega)) only [↓AsR, AsO, AsT, AsU, eq_self, forall_const, Nat.reduceLT, Nat.reduceEqDiff, Nat.reduceSub, Nat.reduceMul, Nat.reduceMod, Nat.reduceDiv, Nat.reducePow, UInt8.reduceToNat, Int.reduceEq, Int.reduceLT, Int.reduceLE, ↓reduceIte, Nat.reduceAdd, Int.reduceToNat, reduceCtorEq, Nat.reduceLeDiff, ↓AxU, ↓Aww, AKN]
 refine Aw2 (show As1 _ _ [.sl 22 (l.map ndT), .sl 20 ([a, b].map idT)] _ _ from ofH l (by omega) hp [a, b] (by simp) (fun hok T => ?_) (fun hno g H' => ?_))
 ·simp -dsimp (disch := first | assumption | omega | (simp only [AsP]; done) | (simp only [AsP]; omega)) only [↓AsR, AsO, AsT, AsU, eq_self, forall_const, Nat.reduceLT, Nat.reduceEqDiff, Nat.reduceSub, Nat.reduceMul, Nat.reduceMod, Nat.reduceDiv, Nat.reducePow, UInt8.reduceToNat, Int.reduceEq, Int.reduceLT, Int.reduceLE, ↓reduceIte, Nat.reduceAdd, Int.reduceToNat, reduceCtorEq, Nat.reduceLeDiff, ↓Ax7, ↓Ax8, ↓AAR, AxS]
  have hin : ∀ z ∈ [a, b], z ∈ As8 l := fun x hx => Aut.1 (List.all_eq_true.1 hok.2 x hx)
  have cl : ∀ (x : List UInt8) (H : List Ob) (K : TV → List Ob → Prop), K (.os 20 H.length 1 [] 0 [x].length [x].length) (H ++ [.obj 1 (.arr [x].length 20 ([x].map idT))]) → As1 Tryd.prog 38 [.sl 20 [.arr 20 1 (x.map by8)]] H K := fun x H K h1 => by
   have := ATl (ids := [x]) (by simp) (fun h => by cases h) h1
   simpa [As9] using this
  refine As1.callsP (AHb hok.1 (by omega) hp (S := [a]) (by simp) (fun z hz => hin z (by simp at hz; simp [hz])) (gi := 4) (mi := 3) rfl rfl rfl (fun K _ h1 => cl a _ K h1) (fun X T1 hndX hmX => ⟨?_, ?_⟩))
  ·simp -dsimp (disch := first | assumption | omega | (simp only [AsP]; done) | (simp only [AsP]; omega)) only [↓AsR, AsO, AsT, AsU, eq_self, forall_const, Nat.reduceLT, Nat.reduceEqDiff, Nat.reduceSub, Nat.reduceMul, Nat.reduceMod, Nat.reduceDiv, Nat.reducePow, UInt8.reduceToNat, Int.reduceEq, Int.reduceLT, Int.reduceLE, ↓reduceIte, Nat.reduceAdd, Int.reduceToNat, reduceCtorEq, Nat.reduceLeDiff, AxS]
   refine As1.callsP (AHb hok.1 (by omega) hp (S := [b]) (by simp) (fun z hz => hin z (by simp at hz; simp [hz])) (gi := 4) (mi := 3) rfl rfl rfl (fun K _ h1 => cl b _ K h1) (fun Y T2 hndY hmY => ⟨?_, ?_⟩))
   ·simp -dsimp (disch := first | assumption | omega | (simp only [AsP]; done) | (simp only [AsP]; omega)) only [↓AsR, AsO, AsT, AsU, eq_self, forall_const, Nat.reduceLT, Nat.reduceEqDiff, Nat.reduceSub, Nat.reduceMul, Nat.reduceMod, Nat.reduceDiv, Nat.reducePow, UInt8.reduceToNat, Int.reduceEq, Int.reduceLT, Int.reduceLE, ↓reduceIte, Nat.reduceAdd, Int.reduceToNat, reduceCtorEq, Nat.reduceLeDiff]
    have hXs : ∀ x ∈ X, x ∈ As8 l := fun x hx => Rc.there hok.1.1 (fun z hz => hin z (by simp at hz; simp [hz])) ((hmX x).1 hx)
    have hXl : X.length ≤ 100 := by
     have := Axm hndX hXs
     have h2 : (As8 l).length = l.length := by simp [As8]
     omega
    have hz : ∀ s : List (List UInt8), (∀ z, z ∈ s ↔ z ∈ X ∧ z ∈ Y) → ∀ z, z ∈ s ↔ Rc l [a] z ∧ Rc l [b] z := fun s hs z => by rw [hs z, hmX z, hmY z]
    refine AMT hok.1 hl hp (X := X) (Y := Y) (gi := 4) (mi := 3) hXl hXs ?_ ?_ ?_ ?_ (fun H' hs => ?_) (fun s id N cp cs H' hs q1 q2 q3 => ?_)
    ·rfl
    ·rfl
    ·simp
    ·simp
    ·simp -dsimp (disch := first | assumption | omega | (simp only [AsP]; done) | (simp only [AsP]; omega)) only [↓AsR, AsO, AsT, AsU, eq_self, forall_const, Nat.reduceLT, Nat.reduceEqDiff, Nat.reduceSub, Nat.reduceMul, Nat.reduceMod, Nat.reduceDiv, Nat.reducePow, UInt8.reduceToNat, Int.reduceEq, Int.reduceLT, Int.reduceLE, ↓reduceIte, Nat.reduceAdd, Int.reduceToNat, reduceCtorEq, Nat.reduceLeDiff]
     exact ⟨fun _ => ⟨[], _, hz [] fun z => ⟨fun h => absurd h (by simp), fun h => absurd h (hs z)⟩, .inr ⟨by simp [AwA, dd, AEN], rfl⟩, rfl⟩, fun h => absurd hok h⟩
    ·simp -dsimp (disch := first | assumption | omega | (simp only [AsP]; done) | (simp only [AsP]; omega)) only [↓AsR, AsO, AsT, AsU, eq_self, forall_const, Nat.reduceLT, Nat.reduceEqDiff, Nat.reduceSub, Nat.reduceMul, Nat.reduceMod, Nat.reduceDiv, Nat.reducePow, UInt8.reduceToNat, Int.reduceEq, Int.reduceLT, Int.reduceLE, ↓reduceIte, Nat.reduceAdd, Int.reduceToNat, reduceCtorEq, Nat.reduceLeDiff, q1, q2]
     exact ⟨fun _ => ⟨s, _, hz s hs, .inl rfl, rfl⟩, fun h => absurd hok h⟩
   ·change ADe [4, 5] _ _ _
    exact ABm rfl rfl (ABm rfl rfl AGC)
  ·change ADe [4, 5] _ _ _
   exact ABm rfl rfl (ABm rfl rfl AGC)
 ·simp -dsimp (disch := first | assumption | omega | (simp only [AsP]; done) | (simp only [AsP]; omega)) only [↓AsR, AsO, AsT, AsU, eq_self, forall_const, Nat.reduceLT, Nat.reduceEqDiff, Nat.reduceSub, Nat.reduceMul, Nat.reduceMod, Nat.reduceDiv, Nat.reducePow, UInt8.reduceToNat, Int.reduceEq, Int.reduceLT, Int.reduceLE, ↓reduceIte, Nat.reduceAdd, Int.reduceToNat, reduceCtorEq, Nat.reduceLeDiff, ↓At8]
  exact ⟨fun h => absurd h hno, fun _ => trivial⟩
/-- The ids that are the AEN ones, in order: no matter how they came. -/
theorem AMc {l : List Nd} {s t : List (List UInt8)} (ht : SD t) (hst : ∀ x, x ∈ t ↔ x ∈ s) : AEN l (dd (AwA s)) = AEN l t := by
 have : dd (AwA s) = t := SD.ext (AP1 (AFK s)) ht fun x => by rw [AIt, AHm, hst]
 rw [this]
theorem ARb (l : List Nd) (hl : l.length ≤ 100) (hp : ∀ n ∈ l, n.ps.length ≤ 1000) (s : List (List UInt8)) (hlen : s.length ≤ 100000) {t : List (List UInt8)} (ht : SD t) (hst : ∀ x, x ∈ t ↔ x ∈ s) : Avh Tryd.prog 17 [.sl 22 (l.map ndT), .sl 20 (s.map idT)] (fun r =>
  (AAy l s → r = .tup [.sl 20 ((AEN l t).map idT), .val .nilIface]) ∧ (¬ AAy l s → r = .tup [.val (.slice none 0 0), .ifc 36 (i64 ((80 : Nat) : Int))])) := by
 refine (AQv l hl hp s hlen).conv ?_
 rintro x ⟨h1, h2⟩
 by_cases h : AAy l s
 ·obtain ⟨y, hi, rfl⟩ := h1 h
  rw [AMc ht hst] at hi
  exact ⟨_, ⟨fun _ => rfl, fun h' => absurd h h'⟩, fun c w v hv => hi.conv c w v hv⟩
 ·exact ⟨x, ⟨fun h' => absurd h' h, h2⟩, fun _ _ _ h => h⟩
theorem APD (l : List Nd) (hl : l.length ≤ 100) (hp : ∀ n ∈ l, n.ps.length ≤ 1000) (a b : List UInt8) : Avh Tryd.prog 15 [.sl 22 (l.map ndT), idT a, idT b] (fun r =>
  (AAy l [a, b] → ∀ t, SD t → (∀ z, z ∈ t ↔ Rc l [a] z ∧ Rc l [b] z) → r = .tup [.sl 20 ((AEN l t).map idT), .val .nilIface]) ∧ (¬ AAy l [a, b] → r = .tup [.val (.slice none 0 0), .ifc 36 (i64 ((80 : Nat) : Int))])) := by
 refine (AUS l hl hp a b).conv ?_
 rintro x ⟨h1, h2⟩
 by_cases h : AAy l [a, b]
 ·obtain ⟨s, y, hs, hi, rfl⟩ := h1 h
  exact ⟨_, ⟨fun _ t ht hst => by rw [← AMc ht fun z => (hst z).trans (hs z).symm], fun h' => absurd h h'⟩, fun c w v hv => hi.conv c w v hv⟩
 ·exact ⟨x, ⟨fun h' => absurd h' h, h2⟩, fun _ _ _ h => h⟩
end Go.Proofs.YtingoaihnlhiaaaDoor


namespace Go.Proofs.YtingoaihnlhiaaaDoor
open Go.RowKit
variable [AtT]
set_option linter.unusedSectionVars false
set_option linter.unusedVariables false
set_option linter.unusedSimpArgs false

theorem AK1 {l : List Nd} {n : Nd} : l.map ndT ++ [TV.agg [.arr 20 1 (n.id.map by8), .sl 20 (n.ps.map idT), i64 n.tm]] = (l ++ [n]).map ndT := by simp [AtA]
theorem AVA (l : List Nd) (hl : l.length ≤ 1000) (hp : ∀ n ∈ l, n.ps.length ≤ 1000) : Avh Tryd.prog 8 [.sl 22 (l.map ndT)] (fun r => r = .sl 22 (l.map ndT)) := by
 refine As1.toPureV (AHW (by simp) ?_)
 simp -dsimp (disch := first | assumption | omega) only [↓AsR, AsO, AsT, AsU, eq_self, forall_const, Nat.reduceLT, Nat.reduceEqDiff, Nat.reduceSub, Nat.reduceMul, Nat.reduceMod, Nat.reduceDiv, Nat.reducePow, UInt8.reduceToNat, Int.reduceEq, Int.reduceLT, Int.reduceLE, ↓reduceIte, Nat.reduceAdd, Int.reduceToNat, reduceCtorEq, Nat.reduceLeDiff, ↓AxB]
 refine At5 (fun m e H => ∃ i v : Nat, m = l.length - i ∧ i ≤ l.length ∧ e = [(0, .sl 22 (l.map ndT)), (3, .os 22 0 v [] 0 i i), (4, i64 (i : Int))] ∧ H = [.obj v (.arr i 22 ((l.take i).map ndT))]) l.length ?_ ?_
 ·exact ⟨0, 0, by simp, by simp, rfl, by simp⟩
 ·rintro m e H ⟨i, v, rfl, hi, rfl, rfl⟩
  by_cases h : i < l.length
  ·have hg : l[i]? = some l[i] := List.getElem?_eq_getElem h
   have hpi := hp l[i] (List.getElem_mem h)
   have hti : (l.take i).length = i := by simp; omega
   have htk : ((l.take i).map ndT).take i = (l.take i).map ndT := AuG hti.symm
   have hsucc := List.take_succ_eq_append_getElem h
   generalize hr : l.take i = r at *
   generalize hn : l[i] = n at *
   simp -dsimp (disch := first | assumption | omega) only [↓AsR, AsO, AsT, AsU, eq_self, forall_const, Nat.reduceLT, Nat.reduceEqDiff, Nat.reduceSub, Nat.reduceMul, Nat.reduceMod, Nat.reduceDiv, Nat.reducePow, UInt8.reduceToNat, Int.reduceEq, Int.reduceLT, Int.reduceLE, ↓reduceIte, Nat.reduceAdd, Int.reduceToNat, reduceCtorEq, Nat.reduceLeDiff, ↓AxB, hg, AtA]
   refine (AOJ n.ps hpi).calls rfl ?_
   rintro x rfl
   simp -dsimp (disch := first | assumption | omega) only [↓AsR, AsO, AsT, AsU, eq_self, forall_const, Nat.reduceLT, Nat.reduceEqDiff, Nat.reduceSub, Nat.reduceMul, Nat.reduceMod, Nat.reduceDiv, Nat.reducePow, UInt8.reduceToNat, Int.reduceEq, Int.reduceLT, Int.reduceLE, ↓reduceIte, Nat.reduceAdd, Int.reduceToNat, reduceCtorEq, Nat.reduceLeDiff, ↓AxB, hg, AtA, AxS, Aw3, htk, hti, AK1]
   exact Ayk (l.length - (i + 1)) 1 (by omega) (by omega) rfl rfl ⟨i + 1, v + 1, rfl, by omega, rfl, by rw [hsucc]; rfl⟩
  ·have hi2 : i = l.length := by omega
   subst hi2
   rw [List.take_length]
   have htk : (l.map ndT).take l.length = l.map ndT := AuG rfl
   simp -dsimp (disch := first | assumption | omega) only [↓AsR, AsO, AsT, AsU, eq_self, forall_const, Nat.reduceLT, Nat.reduceEqDiff, Nat.reduceSub, Nat.reduceMul, Nat.reduceMod, Nat.reduceDiv, Nat.reducePow, UInt8.reduceToNat, Int.reduceEq, Int.reduceLT, Int.reduceLE, ↓reduceIte, Nat.reduceAdd, Int.reduceToNat, reduceCtorEq, Nat.reduceLeDiff, ↓AxB, htk]
end Go.Proofs.YtingoaihnlhiaaaDoor


namespace Go.Proofs.YtingoaihnlhiaaaDoor
open Go.RowKit Go.Extern.Stop Go.Stop Go.Extern
variable [AtT]
set_option linter.unusedSectionVars false


theorem ALu (t : Addr) (w : World) : (ReflectliteValue.unpack (.iface 79 (.pointer (some t)))).run Tryd.prog w
  = .ok (.agg #[.pointer (some ⟨2, 79, none⟩), .pointer (some ⟨w.heap.size, 0, none⟩), .int .u64 150]) (w.alloc (.cells #[.pointer (some t)] 79)) := by kernel_rfl
theorem ASg (a : Addr) (w : World) : (ReflectliteValue.methodAny (ReflectliteValue.valueError "reflectlite.Value.Type" 0) (fun t _ _ _ => ReflectliteType.toType t) #[.agg #[.pointer (some ⟨2, 79, none⟩), .pointer (some a), .int .u64 150]]).run Tryd.prog w
  = .ok (.iface 118 (.agg #[.pointer (some ⟨2, 79, none⟩)])) w := by kernel_rfl
theorem AJ8 (h : Value) (w : World) : (Go.method 288 118 (.agg #[h]) "Kind").run Tryd.prog w = .ok (89, h) w := by kernel_rfl
theorem ASu (w : World) : ((ReflectliteType.abiMethod fun t => (fun a : Nat => Value.int IntKind.u8 (a : Int)) <$> Rtype.kind t) #[.pointer (some ⟨2, 79, none⟩)]).run Tryd.prog w = .ok (.int .u8 22) w := by kernel_rfl
theorem ARS (w : World) : ((ReflectliteType.abiMethod fun t => (fun a : Nat => Value.int IntKind.u8 (a : Int)) <$> Rtype.kind t) #[.pointer (some ⟨2, 36, none⟩)]).run Tryd.prog w = .ok (.int .u8 2) w := by kernel_rfl

theorem rlm (z : Sem Value) (f : TypeId → Addr → Nat → Nat → Sem Value) (v : Value) :
  ReflectliteValue.method z f #[v] = (do match ← ReflectliteValue.parts v with | none => z | some (t, a, fl) => f t a fl (fl % 32)) := rfl
theorem AJ2 (a : Addr) (w : World) : (ReflectliteValue.parts (.agg #[.pointer (some ⟨2, 79, none⟩), .pointer (some a), .int .u64 150])).run Tryd.prog w = .ok (some (79, a, 150)) w := by kernel_rfl
/-- (Value).IsNil at the Value of a **p.E that is not nil. -/
theorem AOk (a p : Addr) (W : World) (ha : W.cell? a = some (.pointer (some p))) :
  (ReflectliteValue.method (ReflectliteValue.valueError "reflectlite.Value.IsNil" 0) ReflectliteValue.isNil #[.agg #[.pointer (some ⟨2, 79, none⟩), .pointer (some a), .int .u64 150]]).run Tryd.prog W = .ok (.bool false) W := by
 rw [rlm]
 simp only [Sem.run_bind, AJ2, Result.andThen]
 simp [ReflectliteValue.isNil, loadVar, isAgg, underlying, Tryd.underlying79, ha, Result.andThen]

theorem AJD (h : Value) (w : World) : (Go.method 288 118 (.agg #[h]) "Elem").run Tryd.prog w = .ok (108, .agg #[h]) w := by kernel_rfl
theorem AEG (h : Value) (w : World) : (Go.method 288 118 (.agg #[h]) "Implements").run Tryd.prog w = .ok (109, .agg #[h]) w := by kernel_rfl
theorem AB7 (h : Value) (w : World) : (Go.method 288 118 (.agg #[h]) "AssignableTo").run Tryd.prog w = .ok (106, .agg #[h]) w := by kernel_rfl
theorem AQu (w : World) : (ReflectliteType.method ReflectliteType.elem #[.agg #[.pointer (some ⟨2, 79, none⟩)]]).run Tryd.prog w = .ok (.iface 118 (.agg #[.pointer (some ⟨2, 36, none⟩)])) w := by kernel_rfl
theorem AHT (w : World) : (ReflectliteType.relation "Implements" ReflectliteType.implements_ #[.agg #[.pointer (some ⟨2, 36, none⟩)], .iface 118 (.agg #[.pointer (some ⟨2, 26, none⟩)])]).run Tryd.prog w = .ok (.bool true) w := by kernel_rfl
theorem AMW (v : Value) (w : World) : (ReflectliteType.typeOf #[.iface 36 v]).run Tryd.prog w = .ok (.iface 118 (.agg #[.pointer (some ⟨2, 36, none⟩)])) w := by kernel_rfl
theorem AHI (w : World) : (ReflectliteType.relation "AssignableTo" ReflectliteType.assignableTo #[.agg #[.pointer (some ⟨2, 36, none⟩)], .iface 118 (.agg #[.pointer (some ⟨2, 36, none⟩)])]).run Tryd.prog w = .ok (.bool true) w := by kernel_rfl
theorem ALj (e : Int) (w : World) : (ReflectliteValue.unpack (.iface 36 (.int .i64 e))).run Tryd.prog w
  = .ok (.agg #[.pointer (some ⟨2, 36, none⟩), .pointer (some ⟨w.heap.size, 0, none⟩), .int .u64 130]) (w.alloc (.cells #[.int .i64 e] 36)) := by kernel_rfl

theorem AMI (w : World) : (Rtype.elem? 79).run Tryd.prog w = .ok (some 36) w := by kernel_rfl
theorem AV7 (p : Addr) (w : World) : (ReflectliteValue.mk 36 p ReflectliteValue.flagAddr).run Tryd.prog w = .ok (.agg #[.pointer (some ⟨2, 36, none⟩), .pointer (some p), .int .u64 386]) w := by kernel_rfl
/-- (Value).Elem at the Value of a **p.E that is not nil: the Value of the *p.E variable that it points to, addressable. -/
theorem AOC (a p : Addr) (W : World) (ha : W.cell? a = some (.pointer (some p))) :
  (ReflectliteValue.method (ReflectliteValue.valueError "reflectlite.Value.Elem" 0) ReflectliteValue.elem #[.agg #[.pointer (some ⟨2, 79, none⟩), .pointer (some a), .int .u64 150]]).run Tryd.prog W
   = .ok (.agg #[.pointer (some ⟨2, 36, none⟩), .pointer (some p), .int .u64 386]) W := by
 rw [rlm]
 simp only [Sem.run_bind, AJ2, Result.andThen]
 simp [ReflectliteValue.elem, loadVar, isAgg, underlying, Tryd.underlying79, ha, Result.andThen, AMI, AV7]
theorem rls (v x : Value) : ReflectliteValue.set #[v, x] = (do
  let (some (dst, a, fl), some (src, b, _)) := (← ReflectliteValue.parts v, ← ReflectliteValue.parts x)
   | unsupported (.noEntry "extern/(internal/reflectlite.Value).Set.zeroValue")
  if fl / ReflectliteValue.flagAddr % 2 == 0 then unsupported (.noEntry "extern/(internal/reflectlite.Value).Set.unaddressable")
  let val ← loadVar src b
  if ← Rtype.directlyAssignable dst src then storeVar dst a val
  else if ← Rtype.implements dst src then
   if (← Rtype.kind src) == 20 then
    match val with
    | .nilIface => unsupported (.noEntry "extern/reflectlite: a nil value of one interface type handed on as a value of another")
    | _ => storeVar dst a val
   else storeVar dst a (.iface src val)
  else panicString ("reflectlite.Set: value of type " ++ (← Rtype.spelt src) ++ " is not assignable to type " ++ (← Rtype.spelt dst))
  pure (.tuple #[])) := rfl
theorem AMs (a : Addr) (w : World) : (ReflectliteValue.parts (.agg #[.pointer (some ⟨2, 36, none⟩), .pointer (some a), .int .u64 386])).run Tryd.prog w = .ok (some (36, a, 386)) w := by kernel_rfl
theorem AN7 (a : Addr) (w : World) : (ReflectliteValue.parts (.agg #[.pointer (some ⟨2, 36, none⟩), .pointer (some a), .int .u64 130])).run Tryd.prog w = .ok (some (36, a, 130)) w := by kernel_rfl
theorem ANi (w : World) : (Rtype.directlyAssignable 36 36).run Tryd.prog w = .ok true w := by kernel_rfl
/-- (Value).Set: the *p.E variable at 'ta' gets what the Value's own variable 'b' holds. -/
theorem AVv (ta b : Addr) (e : Int) (old : Value) (W : World) (hb : W.cell? b = some (.int .i64 e)) (ht : W.cell? ta = some old) (hf : W.frozen? ta = false) :
  (ReflectliteValue.set #[.agg #[.pointer (some ⟨2, 36, none⟩), .pointer (some ta), .int .u64 386], .agg #[.pointer (some ⟨2, 36, none⟩), .pointer (some b), .int .u64 130]]).run Tryd.prog W
   = .ok (.tuple #[]) (W.setCell ta (.int .i64 e)) := by
 rw [rls]
 simp only [Sem.run_bind, AMs, AN7, Result.andThen]
 simp [ReflectliteValue.flagAddr, loadVar, isAgg, underlying, Tryd.underlying36, hb, Result.andThen, ANi, storeVar, Value.cells, storeCells, Addr.add]
 rw [run_store Tryd.prog W ta _ _ (by rfl)]
 simp [ht, hf]

set_option maxHeartbeats 4000000 in
theorem AWL (e : Int) (t : Addr) (old : Value) (w : World) (hg : w.cell? ⟨0, 0, none⟩ = some (.iface 118 (.agg #[.pointer (some ⟨2, 26, none⟩)]))) (ht0 : w.cell? t = some old) (hf0 : w.frozen? t = false) :
  Calls Tryd.prog 31 #[.iface 36 (.int .i64 e), .iface 79 (.pointer (some t))] w fun ev w' => ev = .returned (.bool true) ∧ w' = ((((w.alloc (.cells #[.pointer (some t)] 79)).alloc (.cells #[.pointer (some ⟨2, 79, none⟩), .pointer (some ⟨w.heap.size, 0, none⟩), .int .u64 150] 100)).alloc (.cells #[.pointer (some ⟨2, 79, none⟩), .pointer (some ⟨w.heap.size, 0, none⟩), .int .u64 150] 100)).alloc (.cells #[.int .i64 e] 36)).setCell t (.int .i64 e) := by
 have h6 := @run_callFunc_extern Tryd.prog 41 _ (fun args => ReflectliteValue.unpack (args.getD 0 (.tuple #[]))) Tryd.func41 (by kernel_rfl) (by kernel_rfl) (by kernel_rfl) (by kernel_rfl)
 have h7 := @run_callFunc_extern Tryd.prog 42 _ (ReflectliteValue.methodAny (ReflectliteValue.valueError "reflectlite.Value.Type" 0) (fun t _ _ _ => ReflectliteType.toType t)) Tryd.func42 (by kernel_rfl) (by kernel_rfl) (by kernel_rfl) (by kernel_rfl)
 have h8 := @run_callFunc_extern Tryd.prog 43 _ (ReflectliteValue.method (ReflectliteValue.valueError "reflectlite.Value.IsNil" 0) ReflectliteValue.isNil) Tryd.func43 (by kernel_rfl) (by kernel_rfl) (by kernel_rfl) (by kernel_rfl)
 have h27 := @run_callFunc_extern Tryd.prog 89 _ (ReflectliteType.abiMethod fun t => do pure (.int .u8 (← Rtype.kind t))) Tryd.func89 (by kernel_rfl) (by kernel_rfl) (by kernel_rfl) (by kernel_rfl)
 have h37 := @run_callFunc_extern Tryd.prog 108 _ (ReflectliteType.method ReflectliteType.elem) Tryd.func108 (by kernel_rfl) (by kernel_rfl) (by kernel_rfl) (by kernel_rfl)
 have h38 := @run_callFunc_extern Tryd.prog 109 _ (ReflectliteType.relation "Implements" ReflectliteType.implements_) Tryd.func109 (by kernel_rfl) (by kernel_rfl) (by kernel_rfl) (by kernel_rfl)
 have h10 := @run_callFunc_extern Tryd.prog 52 _ ReflectliteType.typeOf Tryd.func52 (by kernel_rfl) (by kernel_rfl) (by kernel_rfl) (by kernel_rfl)
 have h35 := @run_callFunc_extern Tryd.prog 106 _ (ReflectliteType.relation "AssignableTo" ReflectliteType.assignableTo) Tryd.func106 (by kernel_rfl) (by kernel_rfl) (by kernel_rfl) (by kernel_rfl)
 have h11 := @run_callFunc_extern Tryd.prog 53 _ (ReflectliteValue.method (ReflectliteValue.valueError "reflectlite.Value.Elem" 0) ReflectliteValue.elem) Tryd.func53 (by kernel_rfl) (by kernel_rfl) (by kernel_rfl) (by kernel_rfl)
 have h12 := @run_callFunc_extern Tryd.prog 54 _ ReflectliteValue.set Tryd.func54 (by kernel_rfl) (by kernel_rfl) (by kernel_rfl) (by kernel_rfl)
 have tO := AMW
 have mA := AB7
 have a25 := AHI
 have v25 := ALj
 have f6 := ALu
 have f7 := ASg
 have mK := AJ8
 have mE := AJD
 have mI := AEG
 have k27 := ASu
 have k25 := ARS
 have e27 := AQu
 have i25 := AHT
 have n8 := AOk ⟨w.heap.size, 0, none⟩ t ((w.alloc (.cells #[.pointer (some t)] 79)).alloc (.cells #[.pointer (some ⟨2, 79, none⟩), .pointer (some ⟨w.heap.size, 0, none⟩), .int .u64 150] 100)) (by simp)
 have hlt : 0 < w.heap.size := by
  rcases Nat.lt_or_ge 0 w.heap.size with h | h
  ·exact h
  ·simp [World.cell?, Array.getElem?_eq_none h] at hg
 have hg2 : ((w.alloc (.cells #[.pointer (some t)] 79)).alloc (.cells #[.pointer (some ⟨2, 79, none⟩), .pointer (some ⟨w.heap.size, 0, none⟩), .int .u64 150] 100)).cell? ⟨0, 0, none⟩ = some (.iface 118 (.agg #[.pointer (some ⟨2, 26, none⟩)])) := by
  rw [World.cell?_alloc_lt _ _ ⟨0, 0, none⟩ (by simp), World.cell?_alloc_lt _ _ ⟨0, 0, none⟩ hlt]; exact hg
 have htl : t.block < w.heap.size := by
  rcases Nat.lt_or_ge t.block w.heap.size with h | h
  ·exact h
  ·simp [World.cell?, Array.getElem?_eq_none h] at ht0
 have el := AOC ⟨w.heap.size, 0, none⟩ t (((w.alloc (.cells #[.pointer (some t)] 79)).alloc (.cells #[.pointer (some ⟨2, 79, none⟩), .pointer (some ⟨w.heap.size, 0, none⟩), .int .u64 150] 100)).alloc (.cells #[.pointer (some ⟨2, 79, none⟩), .pointer (some ⟨w.heap.size, 0, none⟩), .int .u64 150] 100)) (by rw [World.cell?_alloc_lt _ _ ⟨w.heap.size, 0, none⟩ (by simp; omega)]; simp)
 have st := AVv t ⟨w.heap.size + 1 + 1 + 1, 0, none⟩ e old ((((w.alloc (.cells #[.pointer (some t)] 79)).alloc (.cells #[.pointer (some ⟨2, 79, none⟩), .pointer (some ⟨w.heap.size, 0, none⟩), .int .u64 150] 100)).alloc (.cells #[.pointer (some ⟨2, 79, none⟩), .pointer (some ⟨w.heap.size, 0, none⟩), .int .u64 150] 100)).alloc (.cells #[.int .i64 e] 36))
  (by rw [World.cell?_alloc_at _ _ _ _ (by simp)]; rfl)
  (by rw [World.cell?_alloc_lt _ _ t (by simp; omega), World.cell?_alloc_lt _ _ t (by simp; omega), World.cell?_alloc_lt _ _ t (by simp; omega), World.cell?_alloc_lt _ _ t htl]; exact ht0)
  (by rw [World.frozen?_alloc_old _ _ t (by simp; omega), World.frozen?_alloc_old _ _ t (by simp; omega), World.frozen?_alloc_old _ _ t (by simp; omega), World.frozen?_alloc_old _ _ t (Nat.ne_of_lt htl)]; exact hf0)
 go_enter Tryd.func31, Tryd.ntmps31
 go_wp2
 refine wp_loop_rounds 1 ?_
 rw [rounds_succ]
 go_wp2
 go_ret
 exact ⟨rfl, rfl⟩
end Go.Proofs.YtingoaihnlhiaaaDoor


namespace Go.Proofs.YtingoaihnlhiaaaDoor
variable [AtT]
set_option linter.unusedSectionVars false
set_option linter.unusedVariables false
set_option linter.defProp false
set_option maxRecDepth 100000

def AIh : AsQ := .seq (.ops [po_ 2 (.mov (ci_ 0))] [0])
 (.seq (.ops [so_ 3 (.alloc (.val (.int .i64 ((0 : Nat) : Int))))] [0, 3])
 (.seq (.block 0 (.seq (.ops [mv_ 5 0,
  po_ 6 (.eqN 1 (.t 5) (.c .nilIface) false),
  mv_ 4 6] [0, 3, 4])
 (.cond (.t 4)
 (.seq (.ops [po_ 2 (.mov (ci_ 0))] [2])
  (.ret))
 (.seq (.ops [mv_ 8 0,
   po_ 9 (.iface 79 (.t 3)),
   so_ 10 (.call 31 [.t 8, .t 9]),
   mv_ 7 10] [3, 7])
  (.cond (.t 7)
  (.seq (.ops [po_ 11 (.load false 1 (.t 3)),
    mv_ 2 11] [2])
   (.ret))
  (.skip))))))
 (.seq (.ops [po_ 2 (.mov (.c (.int .i64 (-1))))] [2])
 (.ret))))
def AIl : List VR := [.tmp 2]
theorem AM2 : Tryd.f12.body.bind (trC Tryd.prog Tryd.f12.ntmps) = some (er AIh) := by kernel_rfl
theorem AMG : trR Tryd.prog Tryd.f12.results.toList = some AIl := by kernel_rfl
def AKq := AsN AIh.eq_1
theorem AKp {K : TV → Prop} {e : Env} {H : List Ob} : res AIl e H K = res [.tmp 2] e H K := AsM rfl
def AEV := (And.intro @AKq @AKp)
def AHh := Awq 12 Tryd.func12 AM2 AMG rfl

end Go.Proofs.YtingoaihnlhiaaaDoor


namespace Go.Proofs.YtingoaihnlhiaaaDoor
open Go.RowKit
variable [AtT] [Avj]
set_option linter.unusedSectionVars false
set_option linter.unusedVariables false
set_option linter.unusedSimpArgs false

theorem ACc.refl {F : Nat → Prop} {w : World} (h : ∀ b, F b → b < w.heap.size) : ACc F w F w := ⟨rfl, rfl, rfl, Nat.le_refl _, fun _ _ => rfl, fun _ h => h, fun _ _ h => h, h⟩
theorem ACc.alloc {F F' : Nat → Prop} {w w' : World} (h : ACc F w F' w') (o : Obj) : ACc F w F' (w'.alloc o) :=
 ⟨h.os, h.tape, h.output, by have := h.size; simp; omega, fun b hb => (AuD w' o (Nat.lt_of_lt_of_le hb h.size)).trans (h.same b hb), h.keepF, h.oldF, fun b hb => by have := h.ltF b hb; simp; omega⟩

/-- An error of the program's. -/
abbrev eno (n : Int) : TV := .ifc 36 (i64 n)

theorem ASQ {n : Int} {id ver : Nat} {p : List (Nat × Nat)} {x x' : TV} {H : List Ob} {K : TV → List Ob → Prop} (ho : H[id]? = some (.obj ver x)) (hs2 : ACP p x (i64 n) = some x') (hk : K (tb true) (H.set id (.obj ver x'))) :
  As1 Tryd.prog 31 [eno n, .ifc 79 (.op id ver p)] H K := by
 intro β F w vs hs hv
 obtain ⟨u, us, rfl, h1, h2⟩ := Atv.cons.1 hv
 obtain ⟨u2, us2, rfl, h3, h4⟩ := Atv.cons.1 h2
 rw [Atv.nil] at h4; subst h4
 -- the two arguments
 have e1 : u = .iface 36 (.int .i64 n) := by
  rcases h1 with h | h | ⟨xs0, h, rfl⟩
  ·cases h
  ·cases h
  ·rw [AsV] at h
   obtain ⟨v, rfl, vs, h, rfl⟩ := h
   rw [AsV] at h
   obtain ⟨rfl, _⟩ := h
   rfl
 obtain ⟨b, o, hbo, rfl⟩ : ∃ b o, β id ver = some (b, o) ∧ u2 = .iface 79 (.pointer (some ⟨b, o + Avm p, none⟩)) := by
  rcases h3 with h | h | ⟨xs0, h, rfl⟩
  ·cases h
  ·cases h
  ·rw [AsV] at h
   obtain ⟨v, rfl, vs, h, rfl⟩ := h
   rw [AsV] at h
   obtain ⟨_, b, o, hb, rfl⟩ := h
   exact ⟨b, o, hb, rfl⟩
 subst e1
 have hgl := hs.glob.at Avj.k
 have hg : w.cell? ⟨0, 0, none⟩ = some (.iface 118 (.agg #[.pointer (some ⟨2, 26, none⟩)])) := hgl 0 _ rfl
 have hrow : ∀ c w, AsV c w (i64 n) [.int .i64 n] := fun c w => by rw [AsV]; exact ⟨rfl, rfl⟩
 obtain ⟨_, _, ht⟩ := hs.store ho hbo hs2 (hrow _ _)
 obtain ⟨t1, t2⟩ := ht 0 (by simp)
 obtain ⟨old, hold⟩ := Option.isSome_iff_exists.1 t1
 refine (AWL n ⟨b, o + Avm p, none⟩ old w hg hold t2).mono ?_
 rintro e w' ⟨rfl, rfl⟩
 have hst := ((((ACc.refl (F := F) hs.lt).alloc (.cells #[.pointer (some ⟨b, o + Avm p, none⟩)] 79)).alloc (.cells #[.pointer (some ⟨2, 79, none⟩), .pointer (some ⟨w.heap.size, 0, none⟩), .int .u64 150] 100)).alloc (.cells #[.pointer (some ⟨2, 79, none⟩), .pointer (some ⟨w.heap.size, 0, none⟩), .int .u64 150] 100)).alloc (.cells #[.int .i64 n] 36)
 obtain ⟨k1, k2, _⟩ := (hst.sim hs).store ho hbo hs2 (hrow _ _)
 exact ⟨_, tb true, β, _, F, rfl, hk, k1, hst.later.trans k2, Rep.of_val⟩

/-- api.Tell of an error of the program's, and of none. -/
theorem A0n {n : Int} : Avh Tryd.prog 12 [eno n] (fun x => x = i64 n) := by
 refine As1.toPureV (AHh (by simp) ?_)
 simp -dsimp (disch := first | assumption | omega) only [↓AsR, AsO, AsT, AsU, eq_self, forall_const, Nat.reduceLT, Nat.reduceEqDiff, Nat.reduceSub, Nat.reduceMul, Nat.reduceMod, Nat.reduceDiv, Nat.reducePow, UInt8.reduceToNat, Int.reduceEq, Int.reduceLT, Int.reduceLE, ↓reduceIte, Nat.reduceAdd, Int.reduceToNat, reduceCtorEq, Nat.reduceLeDiff, ↓AEV]
 refine ASQ (x := i64 ((0 : Nat) : Int)) (x' := i64 n) rfl (by rw [AL5]; rfl) ?_
 simp -dsimp (disch := first | assumption | omega) only [↓AsR, AsO, AsT, AsU, eq_self, forall_const, Nat.reduceLT, Nat.reduceEqDiff, Nat.reduceSub, Nat.reduceMul, Nat.reduceMod, Nat.reduceDiv, Nat.reducePow, UInt8.reduceToNat, Int.reduceEq, Int.reduceLT, Int.reduceLE, ↓reduceIte, Nat.reduceAdd, Int.reduceToNat, reduceCtorEq, Nat.reduceLeDiff, ↓AEV]
theorem AVy : Avh Tryd.prog 12 [.val .nilIface] (fun x => x = i64 ((0 : Nat) : Int)) := by
 refine As1.toPureV (AHh (by simp) ?_)
 simp -dsimp (disch := first | assumption | omega) only [↓AsR, AsO, AsT, AsU, eq_self, forall_const, Nat.reduceLT, Nat.reduceEqDiff, Nat.reduceSub, Nat.reduceMul, Nat.reduceMod, Nat.reduceDiv, Nat.reducePow, UInt8.reduceToNat, Int.reduceEq, Int.reduceLT, Int.reduceLE, ↓reduceIte, Nat.reduceAdd, Int.reduceToNat, reduceCtorEq, Nat.reduceLeDiff, ↓AEV]
end Go.Proofs.YtingoaihnlhiaaaDoor


namespace Go.Proofs.YtingoaihnlhiaaaDoor
open Go.RowKit
variable [AtT]
set_option linter.unusedSectionVars false
set_option linter.unusedVariables false
set_option linter.unusedSimpArgs false

set_option maxRecDepth 100000 in
/-- An id that came in. -/
theorem ABi {t : TypeId} (ht : Tryd.prog.underlying t = some (.array 20 5)) (hn : Tryd.prog.cellsOf t = 20) : AxL Tryd.prog t idT (fun l => l.length = 20) :=
 AxG (AKB ht (k := 1) (by kernel_rfl) (by rw [hn]) (AOZ Tryd.underlying5) (fun _ _ => rfl)) fun l h => ⟨l, by rw [As9], h.1⟩
set_option maxRecDepth 100000 in
/-- Nodes that came in. -/
theorem AKC : AxL Tryd.prog 22 (fun l : List Nd => .sl 22 (l.map ndT)) (fun l => ∀ n ∈ l, n.id.length = 20) := by
 refine AxG (ABJ (k := 22) (B := Tryd.prog.bytesOf 51) Tryd.underlying22 (by kernel_rfl) rfl (ok := fun n : Nd => n.id.length = 20) (f := ndT) ?_ (fun a _ => AOF) (by decide)) fun l h => ⟨l, rfl, h.1⟩
 refine AxG (AJy Tryd.underlying51 (by kernel_rfl) (ABw (off := 0) (n := 20) rfl (by kernel_rfl) (ABi Tryd.underlying40 (by kernel_rfl)) (ABw (off := 20) (n := 1) rfl (by kernel_rfl)
  (ABJ (k := 20) (B := Tryd.prog.bytesOf 40) Tryd.underlying23 (by kernel_rfl) rfl (ABi Tryd.underlying40 (by kernel_rfl)) (fun a _ => Ata) (by decide))
  (ABw (off := 21) (n := 1) rfl (by kernel_rfl) (AMB Tryd.underlying2) ALy)))) fun x h => ?_
 obtain ⟨i, p, t, u⟩ := x
 refine ⟨⟨i, p, t⟩, ?_, h.1⟩
 rw [AtA]
 simp only [As9]
set_option maxRecDepth 100000 in
/-- Ids that came in. -/
theorem ANc : AxL Tryd.prog 23 (fun l : List (List UInt8) => .sl 20 (l.map idT)) (fun l => ∀ x ∈ l, x.length = 20) :=
 AxG (ABJ (k := 20) (B := Tryd.prog.bytesOf 40) Tryd.underlying23 (by kernel_rfl) rfl (ABi Tryd.underlying40 (by kernel_rfl)) (fun a _ => Ata) (by decide)) fun l h => ⟨l, rfl, h.1⟩
end Go.Proofs.YtingoaihnlhiaaaDoor


namespace Go.Proofs.YtingoaihnlhiaaaDoor
open Go.RowKit
variable [AtT] [Avj]
set_option linter.unusedSectionVars false
set_option linter.unusedVariables false
set_option linter.unusedSimpArgs false

theorem APs {l : List Nd} (h : AP9 l = true) : l.length ≤ 40 ∧ ∀ n ∈ l, n.ps.length ≤ 40 := by
 unfold AP9 at h
 rw [Bool.and_eq_true, decide_eq_true_eq, List.all_eq_true] at h
 exact ⟨h.1, fun n hn => by simpa using h.2 n hn⟩
/-- Each once, by its bytes, of what is asked. -/
theorem AJ3 (s : List (List UInt8)) : ∃ t, SD t ∧ ∀ z, z ∈ t ↔ z ∈ s := ⟨dd (AwA s), AP1 (AFK s), fun z => by rw [AIt, AHm]⟩
theorem ARc (l : List Nd) (a b : List UInt8) (some' : List (List UInt8)) (h20 : ∀ n ∈ l, n.id.length = 20) (hs20 : ∀ x ∈ some', x.length = 20) : Avh Tryd.prog 4 [.sl 22 (l.map ndT), idT a, idT b, .sl 20 (some'.map idT)] (fun r => r = tb true) := by
 refine As1.toPureV (ADL (by simp) ?_)
 simp -dsimp (disch := first | assumption | omega | (simp only [AsP]; done) | (simp only [AsP]; omega)) only [↓AsR, AsO, AsT, AsU, eq_self, forall_const, Nat.reduceLT, Nat.reduceEqDiff, Nat.reduceSub, Nat.reduceMul, Nat.reduceMod, Nat.reduceDiv, Nat.reducePow, UInt8.reduceToNat, Int.reduceEq, Int.reduceLT, Int.reduceLE, ↓reduceIte, Nat.reduceAdd, Int.reduceToNat, reduceCtorEq, Nat.reduceLeDiff, ↓AxR, ↓Awr, ↓AsY, As9]
 refine (A1w l).calls rfl ?_
 rintro _ rfl
 cases hf : AP9 l with
 | false => simp -dsimp (disch := first | assumption | omega | (simp only [AsP]; done) | (simp only [AsP]; omega)) only [↓AsR, AsO, AsT, AsU, eq_self, forall_const, Nat.reduceLT, Nat.reduceEqDiff, Nat.reduceSub, Nat.reduceMul, Nat.reduceMod, Nat.reduceDiv, Nat.reducePow, UInt8.reduceToNat, Int.reduceEq, Int.reduceLT, Int.reduceLE, ↓reduceIte, Nat.reduceAdd, Int.reduceToNat, reduceCtorEq, Nat.reduceLeDiff, ↓Atc]
 | true =>
  obtain ⟨hl, hp⟩ := APs hf
  have hp' : ∀ n ∈ l, n.ps.length ≤ 1000 := fun n hn => Nat.le_trans (hp n hn) (by omega)
  have h20' : ∀ x ∈ As8 l, x.length = 20 := fun x hx => by obtain ⟨n, hn, rfl⟩ := List.mem_map.1 hx; exact h20 n hn
  by_cases hs : some'.length ≤ 40
  case neg => simp -dsimp (disch := first | assumption | omega | (simp only [AsP]; done) | (simp only [AsP]; omega)) only [↓AsR, AsO, AsT, AsU, eq_self, forall_const, Nat.reduceLT, Nat.reduceEqDiff, Nat.reduceSub, Nat.reduceMul, Nat.reduceMod, Nat.reduceDiv, Nat.reducePow, UInt8.reduceToNat, Int.reduceEq, Int.reduceLT, Int.reduceLE, ↓reduceIte, Nat.reduceAdd, Int.reduceToNat, reduceCtorEq, Nat.reduceLeDiff, ↓Atc]
  simp -dsimp (disch := first | assumption | omega | (simp only [AsP]; done) | (simp only [AsP]; omega)) only [↓AsR, AsO, AsT, AsU, eq_self, forall_const, Nat.reduceLT, Nat.reduceEqDiff, Nat.reduceSub, Nat.reduceMul, Nat.reduceMod, Nat.reduceDiv, Nat.reducePow, UInt8.reduceToNat, Int.reduceEq, Int.reduceLT, Int.reduceLE, ↓reduceIte, Nat.reduceAdd, Int.reduceToNat, reduceCtorEq, Nat.reduceLeDiff, ↓Awg, ↓Avb, ↓AsY]
  refine (AVA l (by omega) hp').calls rfl ?_
  rintro _ rfl
  simp -dsimp (disch := first | assumption | omega | (simp only [AsP]; done) | (simp only [AsP]; omega)) only [↓AsR, AsO, AsT, AsU, eq_self, forall_const, Nat.reduceLT, Nat.reduceEqDiff, Nat.reduceSub, Nat.reduceMul, Nat.reduceMod, Nat.reduceDiv, Nat.reducePow, UInt8.reduceToNat, Int.reduceEq, Int.reduceLT, Int.reduceLE, ↓reduceIte, Nat.reduceAdd, Int.reduceToNat, reduceCtorEq, Nat.reduceLeDiff, ↓Avb, ↓Awu, ↓AsY]
  rw [← As9, ← As9]
  have hbq : ∀ t : Bool, (t == t) = true := fun t => by cases t <;> rfl
  have tailR : ∀ H : List Ob, ∀ e : Env, get e 3 = .sl 20 (some'.map idT) → get e 0 = .sl 22 (l.map ndT) → get e 10 = .sl 22 (l.map ndT) → vwp Tryd.prog AvE (AJg AwQ fun x H' => Aty (frz H' x) fun r => r = tb true) e H := by
   intro H e g3 g0 g10
   obtain ⟨t, ht, hst⟩ := AJ3 some'
   have htl : t.length ≤ 40 := Nat.le_trans (Axm ht.nodup fun z hz => (hst z).1 hz) hs
   have hbl : (AEN l t).length ≤ 100000 := Nat.le_trans (List.length_filter_le _ _) (by omega)
   simp -dsimp (disch := first | assumption | omega | (simp only [AsP]; done) | (simp only [AsP]; omega)) only [↓AsR, AsO, AsT, AsU, eq_self, forall_const, Nat.reduceLT, Nat.reduceEqDiff, Nat.reduceSub, Nat.reduceMul, Nat.reduceMod, Nat.reduceDiv, Nat.reducePow, UInt8.reduceToNat, Int.reduceEq, Int.reduceLT, Int.reduceLE, ↓reduceIte, Nat.reduceAdd, Int.reduceToNat, reduceCtorEq, Nat.reduceLeDiff, ↓Atc, Ata, Atr, Atl, hbq, g3, g0, g10]
   refine (ARb l (by omega) hp' some' (by omega) ht hst).calls rfl fun r hr => ?_
   by_cases hok : AAy l some'
   ·rw [hr.1 hok]
    simp -dsimp (disch := first | assumption | omega | (simp only [AsP]; done) | (simp only [AsP]; omega)) only [↓AsR, AsO, AsT, AsU, eq_self, forall_const, Nat.reduceLT, Nat.reduceEqDiff, Nat.reduceSub, Nat.reduceMul, Nat.reduceMod, Nat.reduceDiv, Nat.reducePow, UInt8.reduceToNat, Int.reduceEq, Int.reduceLT, Int.reduceLE, ↓reduceIte, Nat.reduceAdd, Int.reduceToNat, reduceCtorEq, Nat.reduceLeDiff, ↓Atc, Ata, Atr, Atl, hbq, g3, g0, g10]
    refine (AOJ some' (by omega)).calls rfl fun r hr => ?_
    subst hr
    simp -dsimp (disch := first | assumption | omega | (simp only [AsP]; done) | (simp only [AsP]; omega)) only [↓AsR, AsO, AsT, AsU, eq_self, forall_const, Nat.reduceLT, Nat.reduceEqDiff, Nat.reduceSub, Nat.reduceMul, Nat.reduceMod, Nat.reduceDiv, Nat.reducePow, UInt8.reduceToNat, Int.reduceEq, Int.reduceLT, Int.reduceLE, ↓reduceIte, Nat.reduceAdd, Int.reduceToNat, reduceCtorEq, Nat.reduceLeDiff, ↓Atc, Ata, Atr, Atl, hbq, g3, g0, g10]
    refine (AJc l (by omega) hp' some' (by omega) hs20).calls rfl fun r hr => ?_
    obtain ⟨s, rfl, hsd, hms⟩ := hr.1 hok
    obtain rfl : s = t := SD.ext hsd ht fun z => (hms z).trans (hst z).symm
    simp -dsimp (disch := first | assumption | omega | (simp only [AsP]; done) | (simp only [AsP]; omega)) only [↓AsR, AsO, AsT, AsU, eq_self, forall_const, Nat.reduceLT, Nat.reduceEqDiff, Nat.reduceSub, Nat.reduceMul, Nat.reduceMod, Nat.reduceDiv, Nat.reducePow, UInt8.reduceToNat, Int.reduceEq, Int.reduceLT, Int.reduceLE, ↓reduceIte, Nat.reduceAdd, Int.reduceToNat, reduceCtorEq, Nat.reduceLeDiff, ↓Atc, Ata, Atr, Atl, hbq, g3, g0, g10]
    refine (AXt (AEN l s) hbl).calls rfl fun r hr => ?_
    subst hr
    simp -dsimp (disch := first | assumption | omega | (simp only [AsP]; done) | (simp only [AsP]; omega)) only [↓AsR, AsO, AsT, AsU, eq_self, forall_const, Nat.reduceLT, Nat.reduceEqDiff, Nat.reduceSub, Nat.reduceMul, Nat.reduceMod, Nat.reduceDiv, Nat.reducePow, UInt8.reduceToNat, Int.reduceEq, Int.reduceLT, Int.reduceLE, ↓reduceIte, Nat.reduceAdd, Int.reduceToNat, reduceCtorEq, Nat.reduceLeDiff, ↓Atc, Ata, Atr, Atl, hbq, g3, g0, g10]
    refine AVy.calls rfl fun r hr => ?_
    subst hr
    simp -dsimp (disch := first | assumption | omega | (simp only [AsP]; done) | (simp only [AsP]; omega)) only [↓AsR, AsO, AsT, AsU, eq_self, forall_const, Nat.reduceLT, Nat.reduceEqDiff, Nat.reduceSub, Nat.reduceMul, Nat.reduceMod, Nat.reduceDiv, Nat.reducePow, UInt8.reduceToNat, Int.reduceEq, Int.reduceLT, Int.reduceLE, ↓reduceIte, Nat.reduceAdd, Int.reduceToNat, reduceCtorEq, Nat.reduceLeDiff, ↓Atc, Ata, Atr, Atl, hbq, g3, g0, g10]
   ·rw [hr.2 hok]
    simp -dsimp (disch := first | assumption | omega | (simp only [AsP]; done) | (simp only [AsP]; omega)) only [↓AsR, AsO, AsT, AsU, eq_self, forall_const, Nat.reduceLT, Nat.reduceEqDiff, Nat.reduceSub, Nat.reduceMul, Nat.reduceMod, Nat.reduceDiv, Nat.reducePow, UInt8.reduceToNat, Int.reduceEq, Int.reduceLT, Int.reduceLE, ↓reduceIte, Nat.reduceAdd, Int.reduceToNat, reduceCtorEq, Nat.reduceLeDiff, ↓Atc, Ata, Atr, Atl, hbq, g3, g0, g10]
    refine (AOJ some' (by omega)).calls rfl fun r hr => ?_
    subst hr
    simp -dsimp (disch := first | assumption | omega | (simp only [AsP]; done) | (simp only [AsP]; omega)) only [↓AsR, AsO, AsT, AsU, eq_self, forall_const, Nat.reduceLT, Nat.reduceEqDiff, Nat.reduceSub, Nat.reduceMul, Nat.reduceMod, Nat.reduceDiv, Nat.reducePow, UInt8.reduceToNat, Int.reduceEq, Int.reduceLT, Int.reduceLE, ↓reduceIte, Nat.reduceAdd, Int.reduceToNat, reduceCtorEq, Nat.reduceLeDiff, ↓Atc, Ata, Atr, Atl, hbq, g3, g0, g10]
    refine (AJc l (by omega) hp' some' (by omega) hs20).calls rfl fun r hr => ?_
    rw [hr.2 hok]
    simp -dsimp (disch := first | assumption | omega | (simp only [AsP]; done) | (simp only [AsP]; omega)) only [↓AsR, AsO, AsT, AsU, eq_self, forall_const, Nat.reduceLT, Nat.reduceEqDiff, Nat.reduceSub, Nat.reduceMul, Nat.reduceMod, Nat.reduceDiv, Nat.reducePow, UInt8.reduceToNat, Int.reduceEq, Int.reduceLT, Int.reduceLE, ↓reduceIte, Nat.reduceAdd, Int.reduceToNat, reduceCtorEq, Nat.reduceLeDiff, ↓Atc, Ata, Atr, Atl, hbq, g3, g0, g10]
    refine AXb.calls rfl fun r hr => ?_
    subst hr
    simp -dsimp (disch := first | assumption | omega | (simp only [AsP]; done) | (simp only [AsP]; omega)) only [↓AsR, AsO, AsT, AsU, eq_self, forall_const, Nat.reduceLT, Nat.reduceEqDiff, Nat.reduceSub, Nat.reduceMul, Nat.reduceMod, Nat.reduceDiv, Nat.reducePow, UInt8.reduceToNat, Int.reduceEq, Int.reduceLT, Int.reduceLE, ↓reduceIte, Nat.reduceAdd, Int.reduceToNat, reduceCtorEq, Nat.reduceLeDiff, ↓Atc, Ata, Atr, Atl, hbq, g3, g0, g10]
    refine A0n.calls rfl fun r hr => ?_
    subst hr
    simp -dsimp (disch := first | assumption | omega | (simp only [AsP]; done) | (simp only [AsP]; omega)) only [↓AsR, AsO, AsT, AsU, eq_self, forall_const, Nat.reduceLT, Nat.reduceEqDiff, Nat.reduceSub, Nat.reduceMul, Nat.reduceMod, Nat.reduceDiv, Nat.reducePow, UInt8.reduceToNat, Int.reduceEq, Int.reduceLT, Int.reduceLE, ↓reduceIte, Nat.reduceAdd, Int.reduceToNat, reduceCtorEq, Nat.reduceLeDiff, ↓Atc, Ata, Atr, Atl, hbq, g3, g0, g10]
  refine (ARA l (by omega) hp' a b).calls (by simp [At4, Aw8]; rfl) fun r hr => ?_
  by_cases hok : AAy l [a, b]
  ·rw [hr.1 hok]
   have hin0 : ∀ x ∈ [a, b], x ∈ As8 l := fun x hx => Aut.1 (List.all_eq_true.1 hok.2 x hx)
   have hin : ∀ z, Rc l [a] z ∧ Rc l [b] z → z ∈ As8 l := fun z h => Rc.there hok.1.1 (fun y hy => hin0 y (by simp at hy; simp [hy])) h.1
   obtain ⟨t, ht, hst⟩ : ∃ t, SD t ∧ ∀ z, z ∈ t ↔ Rc l [a] z ∧ Rc l [b] z := by
    obtain ⟨t, ht, h⟩ := AJ3 ((As8 l).filter fun z => dec (Rc l [a] z ∧ Rc l [b] z))
    refine ⟨t, ht, fun z => ?_⟩
    rw [h z, List.mem_filter]
    have e : ∀ p : Prop, dec p = true ↔ p := fun p => by unfold dec; simp
    rw [e]
    exact ⟨fun h => h.2, fun h => ⟨hin z h, h⟩⟩
   have hbl : (AEN l t).length ≤ 100000 := by
    have h1 := Axm ht.nodup fun z hz => hin z ((hst z).1 hz)
    have h2 : (As8 l).length = l.length := by simp [As8]
    exact Nat.le_trans (List.length_filter_le _ _) (by omega)
   simp -dsimp (disch := first | assumption | omega | (simp only [AsP]; done) | (simp only [AsP]; omega)) only [↓AsR, AsO, AsT, AsU, eq_self, forall_const, Nat.reduceLT, Nat.reduceEqDiff, Nat.reduceSub, Nat.reduceMul, Nat.reduceMod, Nat.reduceDiv, Nat.reducePow, UInt8.reduceToNat, Int.reduceEq, Int.reduceLT, Int.reduceLE, ↓reduceIte, Nat.reduceAdd, Int.reduceToNat, reduceCtorEq, Nat.reduceLeDiff, ↓Ats, ↓AsZ, ↓As0, ↓AsY, Ata, Atr, Atl, hbq]
   refine (AKx l (by omega) hp' a b).calls (by simp [At4, Aw8]; rfl) fun r hr => ?_
   rw [hr.1 hok]
   simp -dsimp (disch := first | assumption | omega | (simp only [AsP]; done) | (simp only [AsP]; omega)) only [↓AsR, AsO, AsT, AsU, eq_self, forall_const, Nat.reduceLT, Nat.reduceEqDiff, Nat.reduceSub, Nat.reduceMul, Nat.reduceMod, Nat.reduceDiv, Nat.reducePow, UInt8.reduceToNat, Int.reduceEq, Int.reduceLT, Int.reduceLE, ↓reduceIte, Nat.reduceAdd, Int.reduceToNat, reduceCtorEq, Nat.reduceLeDiff, ↓Ats, ↓AsZ, ↓As0, ↓AsY, Ata, Atr, Atl, hbq]
   refine AVy.calls rfl fun r hr => ?_
   subst hr
   simp -dsimp (disch := first | assumption | omega | (simp only [AsP]; done) | (simp only [AsP]; omega)) only [↓AsR, AsO, AsT, AsU, eq_self, forall_const, Nat.reduceLT, Nat.reduceEqDiff, Nat.reduceSub, Nat.reduceMul, Nat.reduceMod, Nat.reduceDiv, Nat.reducePow, UInt8.reduceToNat, Int.reduceEq, Int.reduceLT, Int.reduceLE, ↓reduceIte, Nat.reduceAdd, Int.reduceToNat, reduceCtorEq, Nat.reduceLeDiff, ↓Ats, ↓AsZ, ↓As0, ↓AsY, Ata, Atr, Atl, hbq]
   refine (APD l (by omega) hp' a b).calls (by simp [At4, Aw8]; rfl) fun r hr => ?_
   rw [hr.1 hok t ht hst]
   simp -dsimp (disch := first | assumption | omega | (simp only [AsP]; done) | (simp only [AsP]; omega)) only [↓AsR, AsO, AsT, AsU, eq_self, forall_const, Nat.reduceLT, Nat.reduceEqDiff, Nat.reduceSub, Nat.reduceMul, Nat.reduceMod, Nat.reduceDiv, Nat.reducePow, UInt8.reduceToNat, Int.reduceEq, Int.reduceLT, Int.reduceLE, ↓reduceIte, Nat.reduceAdd, Int.reduceToNat, reduceCtorEq, Nat.reduceLeDiff, ↓AsZ, ↓As0, ↓Ati, ↓Atj, ↓Atf, ↓AsY, Ata, Atr, Atl, hbq]
   refine (APA l (by omega) hp' h20' a b).calls (by simp [At4, Aw8]; rfl) fun r hr => ?_
   obtain ⟨s, rfl, hsd, hms⟩ := hr.1 hok
   obtain rfl : s = t := SD.ext hsd ht fun z => (hms z).trans ⟨fun h => (hst z).2 h.2, fun h => ⟨hin z ((hst z).1 h), (hst z).1 h⟩⟩
   simp -dsimp (disch := first | assumption | omega | (simp only [AsP]; done) | (simp only [AsP]; omega)) only [↓AsR, AsO, AsT, AsU, eq_self, forall_const, Nat.reduceLT, Nat.reduceEqDiff, Nat.reduceSub, Nat.reduceMul, Nat.reduceMod, Nat.reduceDiv, Nat.reducePow, UInt8.reduceToNat, Int.reduceEq, Int.reduceLT, Int.reduceLE, ↓reduceIte, Nat.reduceAdd, Int.reduceToNat, reduceCtorEq, Nat.reduceLeDiff, ↓AsZ, ↓As0, ↓Ati, ↓Atj, ↓Atf, ↓AsY, Ata, Atr, Atl, hbq]
   refine (AXt (AEN l s) hbl).calls rfl fun r hr => ?_
   subst hr
   simp -dsimp (disch := first | assumption | omega | (simp only [AsP]; done) | (simp only [AsP]; omega)) only [↓AsR, AsO, AsT, AsU, eq_self, forall_const, Nat.reduceLT, Nat.reduceEqDiff, Nat.reduceSub, Nat.reduceMul, Nat.reduceMod, Nat.reduceDiv, Nat.reducePow, UInt8.reduceToNat, Int.reduceEq, Int.reduceLT, Int.reduceLE, ↓reduceIte, Nat.reduceAdd, Int.reduceToNat, reduceCtorEq, Nat.reduceLeDiff, ↓AsZ, ↓As0, ↓Ati, ↓Atj, ↓Atf, ↓AsY, Ata, Atr, Atl, hbq]
   refine AVy.calls rfl fun r hr => ?_
   subst hr
   simp -dsimp (disch := first | assumption | omega | (simp only [AsP]; done) | (simp only [AsP]; omega)) only [↓AsR, AsO, AsT, AsU, eq_self, forall_const, Nat.reduceLT, Nat.reduceEqDiff, Nat.reduceSub, Nat.reduceMul, Nat.reduceMod, Nat.reduceDiv, Nat.reducePow, UInt8.reduceToNat, Int.reduceEq, Int.reduceLT, Int.reduceLE, ↓reduceIte, Nat.reduceAdd, Int.reduceToNat, reduceCtorEq, Nat.reduceLeDiff, ↓AsZ, ↓As0, ↓Ati, ↓Atj, ↓Atf, ↓AsY, Ata, Atr, Atl, hbq]
   exact tailR _ _ rfl rfl rfl
  ·rw [hr.2 hok]
   simp -dsimp (disch := first | assumption | omega | (simp only [AsP]; done) | (simp only [AsP]; omega)) only [↓AsR, AsO, AsT, AsU, eq_self, forall_const, Nat.reduceLT, Nat.reduceEqDiff, Nat.reduceSub, Nat.reduceMul, Nat.reduceMod, Nat.reduceDiv, Nat.reducePow, UInt8.reduceToNat, Int.reduceEq, Int.reduceLT, Int.reduceLE, ↓reduceIte, Nat.reduceAdd, Int.reduceToNat, reduceCtorEq, Nat.reduceLeDiff, ↓Ats, ↓AsZ, ↓As0, ↓AsY, Ata, Atr, Atl, hbq]
   refine (AKx l (by omega) hp' a b).calls (by simp [At4, Aw8]; rfl) fun r hr => ?_
   rw [hr.2 hok]
   simp -dsimp (disch := first | assumption | omega | (simp only [AsP]; done) | (simp only [AsP]; omega)) only [↓AsR, AsO, AsT, AsU, eq_self, forall_const, Nat.reduceLT, Nat.reduceEqDiff, Nat.reduceSub, Nat.reduceMul, Nat.reduceMod, Nat.reduceDiv, Nat.reducePow, UInt8.reduceToNat, Int.reduceEq, Int.reduceLT, Int.reduceLE, ↓reduceIte, Nat.reduceAdd, Int.reduceToNat, reduceCtorEq, Nat.reduceLeDiff, ↓Ats, ↓AsZ, ↓As0, ↓AsY, Ata, Atr, Atl, hbq]
   refine A0n.calls rfl fun r hr => ?_
   subst hr
   simp -dsimp (disch := first | assumption | omega | (simp only [AsP]; done) | (simp only [AsP]; omega)) only [↓AsR, AsO, AsT, AsU, eq_self, forall_const, Nat.reduceLT, Nat.reduceEqDiff, Nat.reduceSub, Nat.reduceMul, Nat.reduceMod, Nat.reduceDiv, Nat.reducePow, UInt8.reduceToNat, Int.reduceEq, Int.reduceLT, Int.reduceLE, ↓reduceIte, Nat.reduceAdd, Int.reduceToNat, reduceCtorEq, Nat.reduceLeDiff, ↓Ats, ↓AsZ, ↓As0, ↓AsY, Ata, Atr, Atl, hbq]
   refine (APD l (by omega) hp' a b).calls (by simp [At4, Aw8]; rfl) fun r hr => ?_
   rw [hr.2 hok]
   simp -dsimp (disch := first | assumption | omega | (simp only [AsP]; done) | (simp only [AsP]; omega)) only [↓AsR, AsO, AsT, AsU, eq_self, forall_const, Nat.reduceLT, Nat.reduceEqDiff, Nat.reduceSub, Nat.reduceMul, Nat.reduceMod, Nat.reduceDiv, Nat.reducePow, UInt8.reduceToNat, Int.reduceEq, Int.reduceLT, Int.reduceLE, ↓reduceIte, Nat.reduceAdd, Int.reduceToNat, reduceCtorEq, Nat.reduceLeDiff, ↓AsZ, ↓As0, ↓Ati, ↓Atj, ↓Atf, ↓AsY, Ata, Atr, Atl, hbq]
   refine (APA l (by omega) hp' h20' a b).calls (by simp [At4, Aw8]; rfl) fun r hr => ?_
   rw [hr.2 hok]
   simp -dsimp (disch := first | assumption | omega | (simp only [AsP]; done) | (simp only [AsP]; omega)) only [↓AsR, AsO, AsT, AsU, eq_self, forall_const, Nat.reduceLT, Nat.reduceEqDiff, Nat.reduceSub, Nat.reduceMul, Nat.reduceMod, Nat.reduceDiv, Nat.reducePow, UInt8.reduceToNat, Int.reduceEq, Int.reduceLT, Int.reduceLE, ↓reduceIte, Nat.reduceAdd, Int.reduceToNat, reduceCtorEq, Nat.reduceLeDiff, ↓AsZ, ↓As0, ↓Ati, ↓Atj, ↓Atf, ↓AsY, Ata, Atr, Atl, hbq]
   refine AXb.calls rfl fun r hr => ?_
   subst hr
   simp -dsimp (disch := first | assumption | omega | (simp only [AsP]; done) | (simp only [AsP]; omega)) only [↓AsR, AsO, AsT, AsU, eq_self, forall_const, Nat.reduceLT, Nat.reduceEqDiff, Nat.reduceSub, Nat.reduceMul, Nat.reduceMod, Nat.reduceDiv, Nat.reducePow, UInt8.reduceToNat, Int.reduceEq, Int.reduceLT, Int.reduceLE, ↓reduceIte, Nat.reduceAdd, Int.reduceToNat, reduceCtorEq, Nat.reduceLeDiff, ↓AsZ, ↓As0, ↓Ati, ↓Atj, ↓Atf, ↓AsY, Ata, Atr, Atl, hbq]
   refine A0n.calls rfl fun r hr => ?_
   subst hr
   simp -dsimp (disch := first | assumption | omega | (simp only [AsP]; done) | (simp only [AsP]; omega)) only [↓AsR, AsO, AsT, AsU, eq_self, forall_const, Nat.reduceLT, Nat.reduceEqDiff, Nat.reduceSub, Nat.reduceMul, Nat.reduceMod, Nat.reduceDiv, Nat.reducePow, UInt8.reduceToNat, Int.reduceEq, Int.reduceLT, Int.reduceLE, ↓reduceIte, Nat.reduceAdd, Int.reduceToNat, reduceCtorEq, Nat.reduceLeDiff, ↓AsZ, ↓As0, ↓Ati, ↓Atj, ↓Atf, ↓AsY, Ata, Atr, Atl, hbq]
   exact tailR _ _ rfl rfl rfl
end Go.Proofs.YtingoaihnlhiaaaDoor


namespace Go.Proofs.YtingoaihnlhiaaaDoor.graphBases
open Go.ChangeShapes Go.WideShapes Go.ChangeAt Go.RowKit
set_option linter.unusedVariables false

theorem own : ownKnob Tryd.prog.godebug = none := by kernel_rfl
instance gi : AtT := ⟨[(0, Aun)], by kernel_rfl⟩
instance : Avj := ⟨by kernel_rfl⟩
theorem et : Tryd.prog.globalNamed "errors.errorType" = some 0 := by kernel_rfl
theorem rt : (Tryd.prog.cutTypes.find? (·.1 == "internal/reflectlite.rtype")).map (·.2) = some 118 := by kernel_rfl
theorem AWd : ((List.range Tryd.prog.types.size).filter fun t => Tryd.prog.rowNamed t [101, 114, 114, 111, 114]) = [26] := by kernel_rfl
theorem AH5 {W : World} (h : handlesMet Tryd.prog [("errors.errorType", Rows.laid_errors_errorType)] W) : ∃ t fr, W.heap[0]? = some (.cells Aun.cells.toArray t fr) := by
 obtain ⟨name, u, ty, e1, e2, e3, e4, e5⟩ := h _ (List.mem_singleton.2 rfl)
 have en : name = [101, 114, 114, 111, 114] := (Option.some.inj e1).symm
 subst en
 obtain rfl := Option.some.inj (rt.symm.trans e2)
 have hm : ty ∈ (List.range Tryd.prog.types.size).filter fun t => Tryd.prog.rowNamed t [101, 114, 114, 111, 114] := List.mem_filter.2 ⟨List.mem_range.2 e3, e4⟩
 rw [AWd] at hm
 obtain rfl := List.mem_singleton.1 hm
 have hh : typeHandle Tryd.prog 26 = .pointer (some ⟨2, 26, none⟩) := by kernel_rfl
 rw [hh] at e5
 exact ATS et e5
theorem AKz {W : World} (h : laidMetH Tryd.prog Rows.graphBasesRow.laid W) : Ax2 (fun b => b < W.heap.size) W := by
 intro g x hx
 have hm := AMA hx
 have h' : laidMet Tryd.prog [] W ∧ handlesMet Tryd.prog [("errors.errorType", Rows.laid_errors_errorType)] W := h
 have hm' : (g, x) ∈ ([(0, Aun)] : List (Nat × GV)) := hm
 simp only [List.mem_cons, List.mem_nil_iff, or_false, Prod.mk.injEq] at hm'
 have key : ∃ t fr, W.heap[g]? = some (.cells x.cells.toArray t fr) := by
  rcases hm' with ⟨rfl, rfl⟩
  ·exact AH5 h'.2
 obtain ⟨t, fr, hk⟩ := key
 exact ⟨(Array.getElem?_eq_some_iff.1 hk).1, t, fr, hk⟩
noncomputable def AKs (os : Os) : World :=
 let w0 := World.holding Tryd.prog os ⟨#[], #[.slice none 0 0, .agg #[.int .u8 0, .int .u8 0, .int .u8 0, .int .u8 0, .int .u8 0, .int .u8 0, .int .u8 0, .int .u8 0, .int .u8 0, .int .u8 0, .int .u8 0, .int .u8 0, .int .u8 0, .int .u8 0, .int .u8 0, .int .u8 0, .int .u8 0, .int .u8 0, .int .u8 0, .int .u8 0], .agg #[.int .u8 0, .int .u8 0, .int .u8 0, .int .u8 0, .int .u8 0, .int .u8 0, .int .u8 0, .int .u8 0, .int .u8 0, .int .u8 0, .int .u8 0, .int .u8 0, .int .u8 0, .int .u8 0, .int .u8 0, .int .u8 0, .int .u8 0, .int .u8 0, .int .u8 0, .int .u8 0], .slice none 0 0], []⟩
 let w1 := { w0 with heap := w0.heap.modify 0 fun
   | .cells _ t frozen => .cells Aun.cells.toArray t frozen
   | o => o }
 w1
theorem AIJ (os : Os) (args : Array Value) : laidMetH Tryd.prog Rows.graphBasesRow.laid ((AKs os).forCall (fun _ _ => 0) ⟨#[], args, []⟩).memory :=
 laidMetH_of_parts (laidMet_nil _ _) (by kernel_rfl)

theorem ATw : laidOutB Tryd.prog = true ∧ mapsRowed Tryd.prog = true :=
 have H := ClosedOfChecked.allSpec_of Tryd.checked.wellFormed (by kernel_rfl : Tryd.checked.prog.types = Tryd.checked.src.types)
 ⟨ClosedOfChecked.laidOutB_of H (by kernel_rfl), ClosedOfChecked.mapsRowed_of H⟩
theorem Av1 {a b : Bool} (h : a = true) (k : b = true) : (a && b) = true := by rw [h, k]; rfl
theorem AY8 : (Rows.graphBasesRow.wf (OpenSpec.ofChange Rows.graphBasesSpec)) = true := by kernel_rfl
theorem A0b : (laidOutB Tryd.prog) = true := ATw.1
theorem AZ5 : (mapsRowed Tryd.prog) = true := ATw.2
theorem A0v : (Tryd.f4.params.all (Tryd.prog.readableRec ·)) = true := by kernel_rfl
theorem A0c : (namedTie Tryd.prog Rows.graphBasesRow.named Rows.graphBasesSpec.vars) = true := by kernel_rfl
theorem AZS : ((Rows.graphBasesRow.stops == [])) = true := by kernel_rfl
theorem A0m : ((Tryd.prog.stops == [])) = true := by kernel_rfl
theorem AZR : ((Rows.graphBasesRow.knobs == [])) = true := by kernel_rfl
theorem A0I : ((Tryd.prog.stopKnobs == [])) = true := by kernel_rfl
theorem AZx : ((Rows.graphBasesRow.inPlace == Tryd.prog.inPlace 4)) = true := by kernel_rfl
theorem AWp : ((Rows.graphBasesRow.unfollowed == Tryd.prog.unfollowed 4)) = true := by kernel_rfl
theorem AXR : ((Rows.graphBasesRow.recurses == Tryd.prog.recurses 4)) = true := by kernel_rfl
theorem AYk : ((Rows.graphBasesRow.named == Tryd.prog.varsNamed 4)) = true := by kernel_rfl
theorem AWI : ((Rows.graphBasesRow.maps == (Tryd.f4.params.toList ++ Rows.graphBasesSpec.plain.varTypes Tryd.prog).any (Tryd.prog.mapsRec ·))) = true := by kernel_rfl
theorem AVZ : ((Rows.graphBasesRow.ifaces == (Tryd.f4.params.toList ++ Rows.graphBasesSpec.plain.varTypes Tryd.prog).any (Tryd.prog.ifacesRec ·))) = true := by kernel_rfl
theorem AX9 : ((Rows.graphBasesRow.mapsOut == Tryd.prog.mapsAmong Tryd.f4.resultTypes.toList)) = true := by kernel_rfl
theorem AX7 : ((Rows.graphBasesRow.loops == (Tryd.f4.params.toList ++ Rows.graphBasesSpec.plain.varTypes Tryd.prog).any (Tryd.prog.loopsFrom ·))) = true := by kernel_rfl
theorem AXW : ((Rows.graphBasesRow.wideKeys == (Tryd.f4.params.toList ++ Rows.graphBasesSpec.plain.varTypes Tryd.prog ++ Tryd.f4.resultTypes.toList).any (Tryd.prog.wideKeysFrom ·))) = true := by kernel_rfl
theorem AXk : (Rows.graphBasesSpec.vars.all (Tryd.prog.varReadable ·)) = true := by kernel_rfl
theorem AWJ : (Tryd.f4.resultTypes.all (fun t => Tryd.prog.readableRec t && decide (t < Tryd.prog.types.size))) = true := by kernel_rfl
theorem AXB : ((Rows.graphBasesRow.ifacesOut == Tryd.f4.resultTypes.toList.any (Tryd.prog.ifacesRec ·))) = true := by kernel_rfl
theorem AXT : ((Rows.graphBasesRow.loopsOut == Tryd.f4.resultTypes.toList.any (Tryd.prog.loopsFrom ·))) = true := by kernel_rfl
theorem AXC : ((Rows.graphBasesRow.plainKeys == Tryd.prog.plainKeys)) = true := by kernel_rfl
theorem AYm : (Rows.graphBasesRow.shortTexts.isNone) = true := by kernel_rfl
theorem AV0 : (Tryd.prog.stopsHeard) = true := by kernel_rfl
theorem AWK : (Tryd.prog.mayEnter) = true := by kernel_rfl
theorem AXr : ((Rows.graphBasesRow.lifted == Tryd.prog.liftsFinal)) = true := by kernel_rfl
theorem AW4 : ((Tryd.prog.make == some Rows.graphBasesRow.make)) = true := by kernel_rfl
theorem AWf : ((Rows.graphBasesRow.kinds == (if Rows.graphBasesRow.domain.isEmpty then [] else Tryd.f4.params.toList.map fun t => match Tryd.prog.underlying t with | some (.int k) => some k | _ => none))) = true := by kernel_rfl
theorem AYb : ((Rows.graphBasesRow.pinned == Rows.graphBasesRow.pinnedBy)) = true := by kernel_rfl
theorem AV3 : ((Rows.graphBasesRow.veiled == (Tryd.f4.params.toList ++ Rows.graphBasesSpec.plain.varTypes Tryd.prog ++ Tryd.f4.resultTypes.toList).any (Tryd.prog.veiledRec ·))) = true := by kernel_rfl
theorem AXh : (Rows.graphBasesRow.veiledFits Tryd.prog Tryd.f4.params.toList (Tryd.f4.params.toList ++ Rows.graphBasesSpec.plain.varTypes Tryd.prog ++ Tryd.f4.resultTypes.toList)) = true := by kernel_rfl
set_option maxRecDepth 100000 in
theorem AQe : ((Rows.graphBasesRow.wf (OpenSpec.ofChange Rows.graphBasesSpec)) && (laidOutB Tryd.prog) && (mapsRowed Tryd.prog) && (Tryd.f4.params.all (Tryd.prog.readableRec ·)) && (namedTie Tryd.prog Rows.graphBasesRow.named Rows.graphBasesSpec.vars) && ((Rows.graphBasesRow.stops == [])) && ((Tryd.prog.stops == [])) && ((Rows.graphBasesRow.knobs == [])) && ((Tryd.prog.stopKnobs == [])) && ((Rows.graphBasesRow.inPlace == Tryd.prog.inPlace 4)) && ((Rows.graphBasesRow.unfollowed == Tryd.prog.unfollowed 4)) && ((Rows.graphBasesRow.recurses == Tryd.prog.recurses 4)) && ((Rows.graphBasesRow.named == Tryd.prog.varsNamed 4)) && ((Rows.graphBasesRow.maps == (Tryd.f4.params.toList ++ Rows.graphBasesSpec.plain.varTypes Tryd.prog).any (Tryd.prog.mapsRec ·))) && ((Rows.graphBasesRow.ifaces == (Tryd.f4.params.toList ++ Rows.graphBasesSpec.plain.varTypes Tryd.prog).any (Tryd.prog.ifacesRec ·))) && ((Rows.graphBasesRow.mapsOut == Tryd.prog.mapsAmong Tryd.f4.resultTypes.toList)) && ((Rows.graphBasesRow.loops == (Tryd.f4.params.toList ++ Rows.graphBasesSpec.plain.varTypes Tryd.prog).any (Tryd.prog.loopsFrom ·))) && ((Rows.graphBasesRow.wideKeys == (Tryd.f4.params.toList ++ Rows.graphBasesSpec.plain.varTypes Tryd.prog ++ Tryd.f4.resultTypes.toList).any (Tryd.prog.wideKeysFrom ·))) && (Rows.graphBasesSpec.vars.all (Tryd.prog.varReadable ·)) && (Tryd.f4.resultTypes.all (fun t => Tryd.prog.readableRec t && decide (t < Tryd.prog.types.size))) && ((Rows.graphBasesRow.ifacesOut == Tryd.f4.resultTypes.toList.any (Tryd.prog.ifacesRec ·))) && ((Rows.graphBasesRow.loopsOut == Tryd.f4.resultTypes.toList.any (Tryd.prog.loopsFrom ·))) && ((Rows.graphBasesRow.plainKeys == Tryd.prog.plainKeys)) && (Rows.graphBasesRow.shortTexts.isNone) && (Tryd.prog.stopsHeard) && (Tryd.prog.mayEnter) && ((Rows.graphBasesRow.lifted == Tryd.prog.liftsFinal)) && ((Tryd.prog.make == some Rows.graphBasesRow.make)) && ((Rows.graphBasesRow.kinds == (if Rows.graphBasesRow.domain.isEmpty then [] else Tryd.f4.params.toList.map fun t => match Tryd.prog.underlying t with | some (.int k) => some k | _ => none))) && ((Rows.graphBasesRow.pinned == Rows.graphBasesRow.pinnedBy)) && ((Rows.graphBasesRow.veiled == (Tryd.f4.params.toList ++ Rows.graphBasesSpec.plain.varTypes Tryd.prog ++ Tryd.f4.resultTypes.toList).any (Tryd.prog.veiledRec ·))) && (Rows.graphBasesRow.veiledFits Tryd.prog Tryd.f4.params.toList (Tryd.f4.params.toList ++ Rows.graphBasesSpec.plain.varTypes Tryd.prog ++ Tryd.f4.resultTypes.toList))) = true := (Av1 (Av1 (Av1 (Av1 (Av1 (Av1 (Av1 (Av1 (Av1 (Av1 (Av1 (Av1 (Av1 (Av1 (Av1 (Av1 (Av1 (Av1 (Av1 (Av1 (Av1 (Av1 (Av1 (Av1 (Av1 (Av1 (Av1 (Av1 (Av1 (Av1 (Av1 AY8 A0b) AZ5) A0v) A0c) AZS) A0m) AZR) A0I) AZx) AWp) AXR) AYk) AWI) AVZ) AX9) AX7) AXW) AXk) AWJ) AXB) AXT) AXC) AYm) AV0) AWK) AXr) AW4) AWf) AYb) AV3) AXh)
set_option maxRecDepth 100000 in
theorem ALq : joinedFacts Tryd.prog 4 Tryd.f4 Rows.graphBasesSpec Rows.graphBasesRow = true := AQe
set_option maxRecDepth 100000 in
theorem lifted (os : Os) (started : os.Started) (H : Type) (enc : TypeId × Value → H) :
  ReturnsInHanded {} Tryd.checked os 4 .any (fun w args => (Rows.graphBasesSpec.pre enc Tryd.prog Tryd.f4 [] false w args ∧ laidMetH Tryd.prog Rows.graphBasesRow.laid w) ∧ sizedMet enc Tryd.prog Tryd.f4 (OpenSpec.ofChange Rows.graphBasesSpec) false w args) (Rows.graphBasesSpec.post enc Tryd.prog Tryd.f4 false true false false) := by
 refine returnsInHanded_of_change_and (C := Tryd.checked) (X := fun w _ => laidMetH Tryd.prog Rows.graphBasesRow.laid w) (fun _ _ _ hh h => h.of_heap hh) own started (by kernel_rfl) Tryd.func4
  (ChangeSpec.witness_at (enc := enc) (C := Tryd.checked) (os := os) (X := fun w _ => laidMetH Tryd.prog Rows.graphBasesRow.laid w) false (AKs os) #[.slice none 0 0, .agg #[.int .u8 0, .int .u8 0, .int .u8 0, .int .u8 0, .int .u8 0, .int .u8 0, .int .u8 0, .int .u8 0, .int .u8 0, .int .u8 0, .int .u8 0, .int .u8 0, .int .u8 0, .int .u8 0, .int .u8 0, .int .u8 0, .int .u8 0, .int .u8 0, .int .u8 0, .int .u8 0], .agg #[.int .u8 0, .int .u8 0, .int .u8 0, .int .u8 0, .int .u8 0, .int .u8 0, .int .u8 0, .int .u8 0, .int .u8 0, .int .u8 0, .int .u8 0, .int .u8 0, .int .u8 0, .int .u8 0, .int .u8 0, .int .u8 0, .int .u8 0, .int .u8 0, .int .u8 0, .int .u8 0], .slice none 0 0] 8 rfl (by kernel_rfl) (by kernel_rfl) (by kernel_rfl) (by kernel_rfl) (by kernel_rfl) (AIJ os _)) ?_
 intro W base args ds gs before hval0 hW hcnd hsz0 hL _
 have hsz : (DataW.weightsEach Tryd.prog (Tryd.f4.params.toList ++ Rows.graphBasesSpec.plain.varTypes Tryd.prog) (ds ++ gs)).all (· ≤ reachBytes) = true := hsz0
 have hval : ∀ (j : Nat) t v, Tryd.f4.params[j]? = some t → args[j]? = some v → Value.okWide Tryd.prog W .any base t v := hval0
 have hW' := hW
 obtain ⟨p, q, hA0, hV, rfl, hfz, hnd⟩ := hW
 have hA : DataW.TrodAll enc Tryd.prog W 0 (fun _ => true) true Tryd.f4.params.toList args.toList ds p := hA0
 obtain ⟨rfl, rfl⟩ := trodVars_none hV
 have hsz2 : (DataW.weightsEach Tryd.prog Tryd.f4.params.toList ds).all (· ≤ reachBytes) = true := by
  have e : Tryd.f4.params.toList ++ Rows.graphBasesSpec.plain.varTypes Tryd.prog = Tryd.f4.params.toList := by simp [ChangeSpec.plain, Rows.graphBasesSpec]; rfl
  rw [e, List.append_nil] at hsz; exact hsz
 have hA' := hA
 have hps : (Tryd.f4.params.toList.all fun t => Tryd.prog.readableRec t && decide (t < Tryd.prog.types.size)) = true := by kernel_rfl
 have hv2 : ∀ (j : Nat) t v, Tryd.f4.params.toList[j]? = some t → args.toList[j]? = some v → ∃ base, Value.okWide Tryd.prog W .any base t v := fun j t v h1 h2 => ⟨base, hval j t v (by rw [← Array.getElem?_toList]; exact h1) (by rw [← Array.getElem?_toList]; exact h2)⟩
 rw [Tryd.params4] at hA hsz2 hv2
 obtain ⟨dsE, hdsE⟩ : ∃ x, x = ds := ⟨_, rfl⟩
 refine (AXP (f := 4) (AwW AKC (AFW Tryd.underlying22) (fun _ => rfl) (AwW (ABi Tryd.underlying40 (by kernel_rfl)) (AFY Tryd.underlying40) (fun _ => rfl) (AwW (ABi Tryd.underlying40 (by kernel_rfl)) (AFY Tryd.underlying40) (fun _ => rfl) (AwW ANc (AFW Tryd.underlying23) (fun _ => rfl) AI0)))) (fun a h => ARc a.1 a.2.1 a.2.2.1 a.2.2.2.1 h.1 h.2.2.2.1) hA hv2 hsz2 (AKz hL)).mono fun e W' ⟨he, bel⟩ => ?_
 subst he
 have hB := AD3 ATw.1 bel hps hA'
 have hAo := hA
 obtain ⟨v0, vs0, d0, ds0, p0, q0, ha0, hd0, hp0, h0, r0⟩ := trodAll_cons hAo
 obtain ⟨v1, vs1, d1, ds1, p1, q1, ha1, hd1, hp1, h1, r1⟩ := trodAll_cons r0
 obtain ⟨v2, vs2, d2, ds2, p2, q2, ha2, hd2, hp2, h2, r2⟩ := trodAll_cons r1
 obtain ⟨v3, vs3, d3, ds3, p3, q3, ha3, hd3, hp3, h3, r3⟩ := trodAll_cons r2
 obtain ⟨hz1, hz2, hz3⟩ := trodAll_nil r3
 have hd : ds = [d0, d1, d2, d3] := by rw [hd0, hd1, hd2, hd3, hz2]
 subst hd
 exact ⟨_, rfl, _, _, _, [], _, [], hW', trodAll_mk1 (shut_bool Tryd.underlying4 _), hB, rfl, bel.frame _, fun h => by cases h⟩

theorem over : Rows.graphBasesRow.holds Tryd.pinned (OpenSpec.ofChange Rows.graphBasesSpec) :=
 OpenClaim.holds_of_wide 4 Tryd.f4 rfl rfl rfl rfl rfl rfl rfl ⟨rfl, rfl, rfl, rfl, rfl⟩ rfl rfl rfl rfl rfl (by kernel_rfl) Tryd.func4 ALq
  (of_decide_eq_true (by kernel_rfl)) (by unfold Func.isWrapper; first | (rw [if_pos (by decide +kernel)]; kernel_rfl) | (rw [if_neg (by decide +kernel)]; exact ⟨rfl, rfl⟩))
  (fun os started H enc _ => lifted os started H enc)
theorem stands : (Tryd.f4.params.toList.all fun t => !Tryd.prog.wantsStandIn t) = true := by kernel_rfl
theorem proved : Rows.GraphBasesCardSaid :=
 Claim7.holds_tied_plain_at .later [] [.handle] true (true, "39e33661b3df449857456570c2a248c47def025802fa2ecef979a36e033f17ae") true
  over (fun _ h => by cases h) (by kernel_rfl) (fun _ h => by cases h) graphBases_row_tie rfl ⟨rfl, rfl⟩ (by kernel_rfl) rfl
  (fun f fn hf hfn => by
   obtain rfl : f = 4 := (Option.some.inj ((show Tryd.prog.funcNamed "gitlike/gitlikelaw9.GraphBases" = some 4 by kernel_rfl).symm.trans hf)).symm
   obtain rfl : fn = Tryd.f4 := (Option.some.inj (Tryd.func4.symm.trans hfn)).symm
   exact ⟨by kernel_rfl, fun j t ht => by
    rw [← Array.getElem?_toList] at ht
    have := List.all_eq_true.1 stands t (List.mem_of_getElem? ht)
    exact (show Tryd.prog.wantsStandIn t = false by simpa using this)⟩)
  (by kernel_rfl)
#print axioms proved
end Go.Proofs.YtingoaihnlhiaaaDoor.graphBases

