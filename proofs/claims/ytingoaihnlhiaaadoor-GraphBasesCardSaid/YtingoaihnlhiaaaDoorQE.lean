/- What the proof of GraphBasesCard stands on (texts merged; names shortened by a program): part 5. -/
import Derived.Test.YtingoaihnlhiaaaDoorQD
import Derived.Sort.Walk0
import Derived.Lib.Bytealg
import Derived.Test.YtingoaihnlhiaaaDoorProg
import Derived.KernelRfl
namespace Go.Proofs.YtingoaihnlhiaaaDoor
open Go.RowKit
variable [AtT]
set_option linter.unusedSectionVars false
set_option linter.unusedVariables false
set_option linter.unusedSimpArgs false

theorem AGZ {l : List Nd} (hn : (As8 l).Nodup) {i : Nat} (h : i < l.length) : fnd l l[i].id = i := by
 refine ATn h (fun k hk e => ?_) rfl
 have h1 : (As8 l)[k]? = some l[k].id := by rw [As8, List.getElem?_map, List.getElem?_eq_getElem (by omega)]; rfl
 have h2 : (As8 l)[i]? = some l[i].id := by rw [As8, List.getElem?_map, List.getElem?_eq_getElem h]; rfl
 have := (List.getElem?_inj (i := k) (j := i) (by rw [As8, List.length_map]; omega) hn).1 (by rw [h1, h2, e])
 omega
theorem ABF {l : List Nd} {x : List UInt8} (hx : x ∈ As8 l) : ∃ i, ∃ h : i < l.length, fnd l x = i ∧ l[i].id = x := by
 obtain ⟨n, hn, rfl⟩ := List.mem_map.1 hx
 have hlt : (l.findIdx fun m => m.id == n.id) < l.length := List.findIdx_lt_length_of_exists ⟨n, hn, by simp⟩
 refine ⟨l.findIdx fun m => m.id == n.id, hlt, ?_, ?_⟩
 ·unfold fnd; rw [if_pos ⟨n, hn, rfl⟩]
 ·have := List.findIdx_getElem (xs := l) (p := fun m => m.id == n.id) (w := hlt)
  simpa using this
theorem ATZ {l : List Nd} {x : List UInt8} : fnd l x < 0 ↔ ¬ x ∈ As8 l := by
 constructor
 ·intro h hx
  obtain ⟨i, _, e, _⟩ := ABF hx
  omega
 ·intro h
  unfold fnd
  rw [if_neg]
  ·omega
  ·rintro ⟨n, hn, e⟩; exact h (e ▸ Ay2 hn)

noncomputable def AuX (l : List Nd) (S : List (List UInt8)) : List Bool := l.map fun n => @decide (Rc l S n.id) (Classical.propDecidable _)
theorem AxF {l : List Nd} {S : List (List UInt8)} : (AuX l S).length = l.length := by simp [AuX]
theorem AB2 {l : List Nd} {S : List (List UInt8)} {i : Nat} (h : i < l.length) : (AuX l S)[i]? = some true ↔ Rc l S l[i].id := by
 unfold AuX
 rw [List.getElem?_map, List.getElem?_eq_getElem h]
 simp

/-- ACt that are right so far. -/
structure ACt (l : List Nd) (S : List (List UInt8)) (m : List Bool) : Prop where
 len : m.length = l.length
 sound : ∀ i (h : i < l.length), m[i]? = some true → Rc l S l[i].id
theorem ACt.set {l : List Nd} {S : List (List UInt8)} {m : List Bool} (h : ACt l S m) {i : Nat} (hi : i < l.length) (hr : Rc l S l[i].id) : ACt l S (m.set i true) := by
 refine ⟨by rw [List.length_set, h.len], fun j hj hm => ?_⟩
 rw [List.getElem?_set] at hm
 split at hm
 ·rename_i e; subst e; exact hr
 ·exact h.sound j hj hm
/-- What is marked stays marked. -/
def AQi (m m' : List Bool) : Prop := ∀ i : Nat, m[i]? = some true → m'[i]? = some true
theorem AQi.set {m : List Bool} {i : Nat} (hi : i < m.length) : AQi m (m.set i true) := fun j h => by
 rw [List.getElem?_set]
 split
 ·rename_i e; subst e; simp [hi]
 ·exact h
/-- How many are not marked. -/
def unm (m : List Bool) : Nat := m.count false
theorem AT4 {m : List Bool} {i : Nat} (h : m[i]? = some false) : unm (m.set i true) < unm m := by
 unfold unm
 obtain ⟨hi, he⟩ := List.getElem?_eq_some_iff.1 h
 have e := List.take_append_drop i m
 have hd : m.drop i = m[i] :: m.drop (i + 1) := List.drop_eq_getElem_cons hi
 have hs : m.set i true = m.take i ++ true :: m.drop (i + 1) := List.set_eq_take_append_cons_drop.trans (by rw [if_pos hi])
 have h1 : List.count false m = List.count false (m.take i) + List.count false (m[i] :: m.drop (i + 1)) := by rw [← List.count_append, ← hd, e]
 rw [hs, List.count_append, h1, he]
 simp
theorem ANs {l : List Nd} (hv : AII l) {S : List (List UInt8)} {m : List Bool} (h : ACt l S m) (hb : ∀ x ∈ S, ∀ i (hi : i < l.length), l[i].id = x → m[i]? = some true)
  (hc : ∀ i (hi : i < l.length), m[i]? = some true → ∀ p ∈ l[i].ps, ∀ j (hj : j < l.length), l[j].id = p → m[j]? = some true) : m = AuX l S := by
 have comp : ∀ x, Rc l S x → ∀ i (hi : i < l.length), l[i].id = x → m[i]? = some true := by
  intro x hx
  induction hx with
  | base hx => exact hb _ hx
  | step _ h2 ih =>
   intro j hj hje
   obtain ⟨n, hn, hne, hp⟩ := AJt h2
   obtain ⟨i, hi, rfl⟩ := List.mem_iff_getElem.1 hn
   exact hc i hi (ih i hi hne) _ hp j hj hje
 apply List.ext_getElem?
 intro i
 by_cases hi : i < l.length
 ·have h1 : m[i]? = some true ↔ (AuX l S)[i]? = some true := by
   rw [AB2 hi]
   exact ⟨h.sound i hi, fun hr => comp _ hr i hi rfl⟩
  have hm : m[i]? = some (m[i]'(by rw [h.len]; exact hi)) := List.getElem?_eq_getElem _
  have hr : (AuX l S)[i]? = some ((AuX l S)[i]'(by rw [AxF]; exact hi)) := List.getElem?_eq_getElem _
  rw [hm, hr] at h1 ⊢
  simp only [Option.some.injEq] at h1 ⊢
  exact Bool.eq_iff_iff.2 h1
 ·rw [List.getElem?_eq_none (by rw [h.len]; omega), List.getElem?_eq_none (by rw [AxF]; omega)]
theorem Atl {l : List UInt8} : At1 (idT l) = false := by rw [As9]; rfl

theorem AWD (l : List Nd) (S : List (List UInt8)) (hv : AII l) (hl : l.length ≤ 1000) (hS : ∀ x ∈ S, x ∈ As8 l) (hp : ∀ n ∈ l, n.ps.length ≤ 100000) (hs : S.length ≤ 100000) : As1 Tryd.prog 29 [.sl 22 (l.map ndT), .sl 20 (S.map idT)] [] (fun x H' => x = .os 1 0 0 [] 0 l.length l.length ∧ H' = [.obj 0 (.arr l.length 1 ((AuX l S).map tb))]) := by
 refine AJr (by simp) ?_
 simp -dsimp (disch := first | assumption | omega) only [↓AsR, AsO, AsT, AsU, eq_self, forall_const, Nat.reduceLT, Nat.reduceEqDiff, Nat.reduceSub, Nat.reduceMul, Nat.reduceMod, Nat.reduceDiv, Nat.reducePow, UInt8.reduceToNat, Int.reduceEq, Int.reduceLT, Int.reduceLE, ↓reduceIte, Nat.reduceAdd, Int.reduceToNat, reduceCtorEq, Nat.reduceLeDiff, ↓AtI]
 refine At5 (fun q e H => ∃ (i : Nat) (m : List Bool), q = S.length - i ∧ i ≤ S.length ∧ ACt l S m ∧ (∀ x ∈ S.take i, ∀ j (hj : j < l.length), l[j].id = x → m[j]? = some true) ∧ e = [(0, .sl 22 (l.map ndT)), (1, .sl 20 (S.map idT)), (5, .os 1 0 0 [] 0 l.length l.length), (6, i64 (i : Int))] ∧ H = [.obj 0 (.arr l.length 1 (m.map tb))]) S.length ?_ ?_
 ·exact ⟨0, List.replicate l.length false, by simp, by simp, ⟨by simp, fun i h hm => by simp [List.getElem?_replicate] at hm⟩, by simp, rfl, by simp [tb]⟩
 ·rintro q e H ⟨i, m, rfl, hi, hm, hb, rfl, rfl⟩
  by_cases h : i < S.length
  ·have hg : S[i]? = some S[i] := List.getElem?_eq_getElem h
   have hsucc := List.take_succ_eq_append_getElem h
   obtain ⟨j, hj, hjf, hje⟩ := ABF (hS S[i] (List.getElem_mem h))
   have hRc : Rc l S l[j].id := hje ▸ .base (List.getElem_mem h)
   generalize S[i] = x at *
   simp -dsimp (disch := first | assumption | omega) only [↓AsR, AsO, AsT, AsU, eq_self, forall_const, Nat.reduceLT, Nat.reduceEqDiff, Nat.reduceSub, Nat.reduceMul, Nat.reduceMod, Nat.reduceDiv, Nat.reducePow, UInt8.reduceToNat, Int.reduceEq, Int.reduceLT, Int.reduceLE, ↓reduceIte, Nat.reduceAdd, Int.reduceToNat, reduceCtorEq, Nat.reduceLeDiff, ↓AtI, hg, Atr, Ata, Atl]
   refine (AG4 l x (by omega)).calls rfl ?_
   rintro r rfl
   rw [hjf]
   have hml : j < m.length := by rw [hm.len]; exact hj
   have hmj : m[j]? = some m[j] := List.getElem?_eq_getElem hml
   simp -dsimp (disch := first | assumption | omega) only [↓AsR, AsO, AsT, AsU, eq_self, forall_const, Nat.reduceLT, Nat.reduceEqDiff, Nat.reduceSub, Nat.reduceMul, Nat.reduceMod, Nat.reduceDiv, Nat.reducePow, UInt8.reduceToNat, Int.reduceEq, Int.reduceLT, Int.reduceLE, ↓reduceIte, Nat.reduceAdd, Int.reduceToNat, reduceCtorEq, Nat.reduceLeDiff, ↓AtI, hmj]
   refine Atd (S.length - (i + 1)) (by omega) (by simp) ⟨i + 1, m.set j true, rfl, by omega, hm.set hj hRc, fun y hy k hk hke => ?_, rfl, ?_⟩
   ·rw [hsucc, List.mem_append, List.mem_singleton] at hy
    rcases hy with hy | rfl
    ·exact AQi.set hml k (hb y hy k hk hke)
    ·have h1 := AGZ hv.nodup hk
     have h2 := AGZ hv.nodup hj
     rw [hke] at h1; rw [hje, h1] at h2
     have h3 : k = j := by omega
     subst h3
     rw [List.getElem?_set_self hml]
   ·simp [tb]
  ·have hi2 : i = S.length := by omega
   rw [hi2, List.take_length] at hb
   clear hi2 hi
   simp -dsimp (disch := first | assumption | omega) only [↓AsR, AsO, AsT, AsU, eq_self, forall_const, Nat.reduceLT, Nat.reduceEqDiff, Nat.reduceSub, Nat.reduceMul, Nat.reduceMod, Nat.reduceDiv, Nat.reducePow, UInt8.reduceToNat, Int.reduceEq, Int.reduceLT, Int.reduceLE, ↓reduceIte, Nat.reduceAdd, Int.reduceToNat, reduceCtorEq, Nat.reduceLeDiff, ↓AtI]
   -- again and again
   refine At5 (fun q e H => ∃ (again : Bool) (m : List Bool), q = unm m + (if again then 1 else 0) ∧ ACt l S m ∧ (∀ x ∈ S, ∀ j (hj : j < l.length), l[j].id = x → m[j]? = some true) ∧
    (again = false → ∀ i (hi : i < l.length), m[i]? = some true → ∀ p ∈ l[i].ps, ∀ j (hj : j < l.length), l[j].id = p → m[j]? = some true) ∧
    e = [(0, .sl 22 (l.map ndT)), (5, .os 1 0 0 [] 0 l.length l.length), (8, tb again)] ∧ H = [.obj 0 (.arr l.length 1 (m.map tb))]) (unm m + 1) ?_ ?_
   ·exact ⟨true, m, rfl, hm, hb, by simp, rfl, rfl⟩
   ·clear hb hm
    rintro q e H ⟨again, m, rfl, hm, hb, hc, rfl, rfl⟩
    cases again with
    | false =>
     simp -dsimp (disch := first | assumption | omega) only [↓AsR, AsO, AsT, AsU, eq_self, forall_const, Nat.reduceLT, Nat.reduceEqDiff, Nat.reduceSub, Nat.reduceMul, Nat.reduceMod, Nat.reduceDiv, Nat.reducePow, UInt8.reduceToNat, Int.reduceEq, Int.reduceLT, Int.reduceLE, ↓reduceIte, Nat.reduceAdd, Int.reduceToNat, reduceCtorEq, Nat.reduceLeDiff, ↓AtI]
     rw [ANs hv hm hb (hc rfl)]
    | true =>
     clear hc
     simp -dsimp (disch := first | assumption | omega) only [↓AsR, AsO, AsT, AsU, eq_self, forall_const, Nat.reduceLT, Nat.reduceEqDiff, Nat.reduceSub, Nat.reduceMul, Nat.reduceMod, Nat.reduceDiv, Nat.reducePow, UInt8.reduceToNat, Int.reduceEq, Int.reduceLT, Int.reduceLE, ↓reduceIte, Nat.reduceAdd, Int.reduceToNat, reduceCtorEq, Nat.reduceLeDiff, ↓AtI]
     -- a pass
     refine At5 (fun q e H => ∃ (i : Nat) (again : Bool) (m' : List Bool), q = l.length - i ∧ i ≤ l.length ∧ ACt l S m' ∧ (∀ x ∈ S, ∀ j (hj : j < l.length), l[j].id = x → m'[j]? = some true) ∧ unm m' + (if again then 1 else 0) ≤ unm m ∧
      (again = false → ∀ k (hk : k < l.length), k < i → m'[k]? = some true → ∀ p ∈ l[k].ps, ∀ j (hj : j < l.length), l[j].id = p → m'[j]? = some true) ∧
      e = [(0, .sl 22 (l.map ndT)), (5, .os 1 0 0 [] 0 l.length l.length), (8, tb again), (9, i64 (i : Int))] ∧ H = [.obj 0 (.arr l.length 1 (m'.map tb))]) l.length ?_ ?_
     ·exact ⟨0, false, m, by simp, by simp, hm, hb, by simp, fun _ k _ hk => by omega, rfl, rfl⟩
     ·clear hb hm
      rintro q e H ⟨i, again, m', rfl, hi, hm, hb, hu, hc, rfl, rfl⟩
      by_cases h : i < l.length
      ·have hg : l[i]? = some l[i] := List.getElem?_eq_getElem h
       have hpi := hp l[i] (List.getElem_mem h)
       simp -dsimp (disch := first | assumption | omega) only [↓AsR, AsO, AsT, AsU, eq_self, forall_const, Nat.reduceLT, Nat.reduceEqDiff, Nat.reduceSub, Nat.reduceMul, Nat.reduceMod, Nat.reduceDiv, Nat.reducePow, UInt8.reduceToNat, Int.reduceEq, Int.reduceLT, Int.reduceLE, ↓reduceIte, Nat.reduceAdd, Int.reduceToNat, reduceCtorEq, Nat.reduceLeDiff, ↓AtI]
       -- the parents
       refine At5 (fun q e H => ∃ (k : Nat) (again : Bool) (m' : List Bool), q = l[i].ps.length - k ∧ k ≤ l[i].ps.length ∧ ACt l S m' ∧ (∀ x ∈ S, ∀ j (hj : j < l.length), l[j].id = x → m'[j]? = some true) ∧ unm m' + (if again then 1 else 0) ≤ unm m ∧
        (again = false → ∀ k (hk : k < l.length), k < i → m'[k]? = some true → ∀ p ∈ l[k].ps, ∀ j (hj : j < l.length), l[j].id = p → m'[j]? = some true) ∧
        (again = false → m'[i]? = some true → ∀ p ∈ l[i].ps.take k, ∀ j (hj : j < l.length), l[j].id = p → m'[j]? = some true) ∧
        e = [(0, .sl 22 (l.map ndT)), (5, .os 1 0 0 [] 0 l.length l.length), (8, tb again), (9, i64 (i : Int)), (10, i64 (k : Int))] ∧ H = [.obj 0 (.arr l.length 1 (m'.map tb))]) l[i].ps.length ?_ ?_
       ·exact ⟨0, again, m', by simp, by simp, hm, hb, hu, hc, by simp, rfl, rfl⟩
       ·clear hb hm hu hc
        rintro q e H ⟨k, again, m', rfl, hk, hm, hb, hu, hc, hd, rfl, rfl⟩
        have hml : i < m'.length := by rw [hm.len]; exact h
        have hmi : m'[i]? = some m'[i] := List.getElem?_eq_getElem hml
        by_cases h2 : k < l[i].ps.length ∧ m'[i] = true
        ·obtain ⟨h2, h3⟩ := h2
         rw [h3] at hmi
         have hg2 : l[i].ps[k]? = some l[i].ps[k] := List.getElem?_eq_getElem h2
         have hsucc := List.take_succ_eq_append_getElem h2
         obtain ⟨j, hj, hjf, hje⟩ := ABF (hv.there l[i] (List.getElem_mem h) l[i].ps[k] (List.getElem_mem h2))
         have hRc : Rc l S l[j].id := by
          rw [hje]
          exact .step (hm.sound i h hmi) (by rw [AIa hv.nodup (List.getElem_mem h)]; exact List.getElem_mem h2)
         have hjl : j < m'.length := by rw [hm.len]; exact hj
         have hmj : m'[j]? = some m'[j] := List.getElem?_eq_getElem hjl
         have huniq : ∀ j' (hj' : j' < l.length), l[j'].id = l[i].ps[k] → j' = j := fun j' hj' e => by
          have h1 := AGZ hv.nodup hj'
          have h2 := AGZ hv.nodup hj
          rw [e] at h1; rw [hje, h1] at h2; omega
         generalize hx : l[i].ps[k] = x at *
         generalize hn : l[i] = n at *
         simp -dsimp (disch := first | assumption | omega) only [↓AsR, AsO, AsT, AsU, eq_self, forall_const, Nat.reduceLT, Nat.reduceEqDiff, Nat.reduceSub, Nat.reduceMul, Nat.reduceMod, Nat.reduceDiv, Nat.reducePow, UInt8.reduceToNat, Int.reduceEq, Int.reduceLT, Int.reduceLE, ↓reduceIte, Nat.reduceAdd, Int.reduceToNat, reduceCtorEq, Nat.reduceLeDiff, ↓AtI, hg, hg2, hmi, AtA, Atr, Ata, Atl]
         refine (AG4 l x (by omega)).calls rfl ?_
         rintro r rfl
         rw [hjf]
         cases hb2 : m'[j] with
         | true =>
          rw [hb2] at hmj
          simp -dsimp (disch := first | assumption | omega) only [↓AsR, AsO, AsT, AsU, eq_self, forall_const, Nat.reduceLT, Nat.reduceEqDiff, Nat.reduceSub, Nat.reduceMul, Nat.reduceMod, Nat.reduceDiv, Nat.reducePow, UInt8.reduceToNat, Int.reduceEq, Int.reduceLT, Int.reduceLE, ↓reduceIte, Nat.reduceAdd, Int.reduceToNat, reduceCtorEq, Nat.reduceLeDiff, ↓AtI, hmj]
          refine Atd (n.ps.length - (k + 1)) (by omega) (by simp) ⟨k + 1, again, m', rfl, by omega, hm, hb, hu, hc, fun ha hm2 p hp' j' hj' hje' => ?_, rfl, rfl⟩
          rw [hsucc, List.mem_append, List.mem_singleton] at hp'
          rcases hp' with hp' | rfl
          ·exact hd ha hm2 p hp' j' hj' hje'
          ·rw [huniq j' hj' hje']; exact hmj
         | false =>
          rw [hb2] at hmj
          have hlt := AT4 hmj
          simp -dsimp (disch := first | assumption | omega) only [↓AsR, AsO, AsT, AsU, eq_self, forall_const, Nat.reduceLT, Nat.reduceEqDiff, Nat.reduceSub, Nat.reduceMul, Nat.reduceMod, Nat.reduceDiv, Nat.reducePow, UInt8.reduceToNat, Int.reduceEq, Int.reduceLT, Int.reduceLE, ↓reduceIte, Nat.reduceAdd, Int.reduceToNat, reduceCtorEq, Nat.reduceLeDiff, ↓AtI, hmj]
          refine Atd (n.ps.length - (k + 1)) (by omega) (by simp) ⟨k + 1, true, m'.set j true, rfl, by omega, hm.set hj hRc, fun y hy k' hk' hke' => AQi.set hjl k' (hb y hy k' hk' hke'), ?_, by simp, by simp, rfl, by simp [tb]⟩
          simp only [if_true]
          split at hu <;> omega
        ·have hdone : again = false → m'[i]? = some true → ∀ p ∈ l[i].ps, ∀ j (hj : j < l.length), l[j].id = p → m'[j]? = some true := fun ha hm2 => by
          have h3 : m'[i] = true := by rw [hm2] at hmi; simpa using hmi.symm
          have h4 : k = l[i].ps.length := by
           refine Classical.byContradiction fun hne => h2 ⟨by omega, h3⟩
          have := hd ha hm2
          rwa [h4, List.take_length] at this
         have hfin : ∃ (i' : Nat) (again' : Bool) (m2 : List Bool), l.length - (i + 1) = l.length - i' ∧ i' ≤ l.length ∧ ACt l S m2 ∧ (∀ x ∈ S, ∀ j (hj : j < l.length), l[j].id = x → m2[j]? = some true) ∧ unm m2 + (if again' then 1 else 0) ≤ unm m ∧
           (again' = false → ∀ k (hk : k < l.length), k < i' → m2[k]? = some true → ∀ p ∈ l[k].ps, ∀ j (hj : j < l.length), l[j].id = p → m2[j]? = some true) ∧
           [((0 : Nat), TV.sl 22 (l.map ndT)), (5, .os 1 0 0 [] 0 l.length l.length), (8, tb again), (9, i64 ((i + 1 : Nat) : Int))] = [(0, .sl 22 (l.map ndT)), (5, .os 1 0 0 [] 0 l.length l.length), (8, tb again'), (9, i64 (i' : Int))] ∧ [Ob.obj 0 (.arr l.length 1 (m'.map tb))] = [.obj 0 (.arr l.length 1 (m2.map tb))] := by
          refine ⟨i + 1, again, m', rfl, by omega, hm, hb, hu, fun ha k' hk' hki hm2 => ?_, rfl, rfl⟩
          by_cases e : k' = i
          ·subst e; exact hdone ha hm2
          ·exact hc ha k' hk' (by omega) hm2
         clear hdone hd
         by_cases h3 : k < l[i].ps.length
         ·have h4 : m'[i] = false := by
           cases hb4 : m'[i] with
           | false => rfl
           | true => exact absurd ⟨h3, hb4⟩ h2
          rw [h4] at hmi
          simp -dsimp (disch := first | assumption | omega) only [↓AsR, AsO, AsT, AsU, eq_self, forall_const, Nat.reduceLT, Nat.reduceEqDiff, Nat.reduceSub, Nat.reduceMul, Nat.reduceMod, Nat.reduceDiv, Nat.reducePow, UInt8.reduceToNat, Int.reduceEq, Int.reduceLT, Int.reduceLE, ↓reduceIte, Nat.reduceAdd, Int.reduceToNat, reduceCtorEq, Nat.reduceLeDiff, ↓AtI, hg, hmi, AtA]
          exact Atd (l.length - (i + 1)) (by omega) (by simp) hfin
         ·simp -dsimp (disch := first | assumption | omega) only [↓AsR, AsO, AsT, AsU, eq_self, forall_const, Nat.reduceLT, Nat.reduceEqDiff, Nat.reduceSub, Nat.reduceMul, Nat.reduceMod, Nat.reduceDiv, Nat.reducePow, UInt8.reduceToNat, Int.reduceEq, Int.reduceLT, Int.reduceLE, ↓reduceIte, Nat.reduceAdd, Int.reduceToNat, reduceCtorEq, Nat.reduceLeDiff, ↓AtI, hg, AtA]
          exact Atd (l.length - (i + 1)) (by omega) (by simp) hfin
      ·have hi2 : i = l.length := by omega
       simp -dsimp (disch := first | assumption | omega) only [↓AsR, AsO, AsT, AsU, eq_self, forall_const, Nat.reduceLT, Nat.reduceEqDiff, Nat.reduceSub, Nat.reduceMul, Nat.reduceMod, Nat.reduceDiv, Nat.reducePow, UInt8.reduceToNat, Int.reduceEq, Int.reduceLT, Int.reduceLE, ↓reduceIte, Nat.reduceAdd, Int.reduceToNat, reduceCtorEq, Nat.reduceLeDiff, ↓AtI]
       refine Atd (unm m' + (if again then 1 else 0)) (by omega) (by simp) ⟨again, m', rfl, hm, hb, fun ha k hk => hc ha k hk (by omega), rfl, rfl⟩
theorem AJC (l : List Nd) (S : List (List UInt8)) (hv : AII l) (hl : l.length ≤ 1000) (hS : ∀ x ∈ S, x ∈ As8 l) (hp : ∀ n ∈ l, n.ps.length ≤ 100000) (hs : S.length ≤ 100000) : Avh Tryd.prog 29 [.sl 22 (l.map ndT), .sl 20 (S.map idT)] (fun r => r = .sl 1 ((AuX l S).map tb)) := by
 have hlen : (AuX l S).length = l.length := AxF
 have htk : (AuX l S).take l.length = AuX l S := List.take_of_length_le (by omega)
 refine As1.toPureV ((AWD l S hv hl hS hp hs).mono ?_)
 rintro x H' ⟨rfl, rfl⟩
 simp -dsimp (disch := first | assumption | omega) only [↓AsR, AsO, AsT, AsU, eq_self, forall_const, Nat.reduceLT, Nat.reduceEqDiff, Nat.reduceSub, Nat.reduceMul, Nat.reduceMod, Nat.reduceDiv, Nat.reducePow, UInt8.reduceToNat, Int.reduceEq, Int.reduceLT, Int.reduceLE, ↓reduceIte, Nat.reduceAdd, Int.reduceToNat, reduceCtorEq, Nat.reduceLeDiff, htk]
end Go.Proofs.YtingoaihnlhiaaaDoor


namespace Go.Proofs.YtingoaihnlhiaaaDoor
open Go.RowKit
variable [AtT]
set_option linter.unusedSectionVars false
set_option linter.unusedVariables false
set_option linter.unusedSimpArgs false

mutual
/-- With other numbers. -/
def shT (n : Nat) : TV → TV
 | .op id ver p => .op (id + n) ver p
 | .os k id ver p off m cp => .os k (id + n) ver p off m cp
 | .mp id ver => .mp (id + n) ver
 | .yl id ver => .yl (id + n) ver
 | .agg cs => .agg (shL n cs)
 | .tup cs => .tup (shL n cs)
 | .ifc t x => .ifc t (shT n x)
 | .fn f a b => .fn f (shL n a) (shL n b)
 | .val v => .val v
 | .any => .any
 | .sl k cs => .sl k cs
 | .fp x => .fp x
 | .arr m k cs => .arr m k cs
def shL (n : Nat) : List TV → List TV
 | [] => []
 | x :: xs => shT n x :: shL n xs
end
def ALY (n : Nat) : List (List UInt8 × TV) → List (List UInt8 × TV)
 | [] => []
 | e :: es => (e.1, shT n e.2) :: ALY n es
def ATp (n : Nat) : List (Nat × List UInt8 × TV) → List (Nat × List UInt8 × TV)
 | [] => []
 | z :: zs => (z.1, z.2.1, shT n z.2.2) :: ATp n zs
def AP0 (n : Nat) : List (Nat × TV) → List (Nat × TV)
 | [] => []
 | e :: es => (e.1, shT n e.2) :: AP0 n es
def shO (n : Nat) : Ob → Ob
 | .obj v x => .obj v (shT n x)
 | .gone v => .gone v
 | .ice v m x => .ice v m (shT n x)
 | .fact i v t m => .fact (i + n) v t m
 | .lp st pend fn N e ps ca cb => .lp st pend fn N (AP0 n e) ps ca cb
 | .mpo kk es => .mpo kk (ALY n es)
 | .bld v t l => .bld v t l
 | .sit s pos => .sit s pos
 | .mpd kk zs cl => .mpd kk (ATp n zs) cl
 | .mit m sn cl => .mit (m + n) sn cl
theorem ACu {n : Nat} {o : Ob} : (shO n o).ver = o.ver := by cases o <;> rfl
theorem AEL {n : Nat} {o : Ob} : (shO n o).live = o.live := by cases o <;> rfl
theorem AMl {n : Nat} {x : TV} {us : List Value} : mkV (shT n x) us = mkV x us := by cases x <;> simp only [shT, mkV]
theorem AJN {n : Nat} : ∀ {e : List (Nat × TV)} {s : Nat}, get (AP0 n e) s = shT n (get e s)
 | [], s => by rw [AP0, get, shT]
 | (k, x) :: e, s => by
  rw [AP0, get, get]
  by_cases h : k = s
  ·simp [h]
  ·simp only [h, if_false]; exact AJN
theorem AL0 {n : Nat} : ∀ {zs : List (Nat × List UInt8 × TV)}, (ATp n zs).map (·.2) = ALY n (zs.map (·.2))
 | [] => by rw [ATp, List.map_nil, ALY]
 | z :: zs => by rw [ATp, List.map_cons, List.map_cons, ALY, AL0]
theorem AI2 {n : Nat} : ∀ {zs : List (Nat × List UInt8 × TV)}, (ATp n zs).map (·.1) = zs.map (·.1)
 | [] => by rw [ATp]
 | z :: zs => by rw [ATp, List.map_cons, List.map_cons, AI2]

structure AHY (c c' : Ctx) (n : Nat) : Prop where
 beta : ∀ id ver, c'.β (id + n) ver = c.β id ver
 has : ∀ id ver, c.has id ver → c'.has (id + n) ver
 keepF : ∀ b, c.F b → c'.F b
theorem AHY.bare {c c' : Ctx} {n : Nat} {w : World} (h : AHY c c' n) : AwX c.bare w c'.bare w := ⟨fun b hb => ⟨h.keepF b hb, rfl⟩, fun _ _ k => (Ctx.bare_has k).elim, fun _ _ => rfl⟩
mutual
theorem AsV.shift {c c' : Ctx} {w : World} {n : Nat} (h : AHY c c' n) : ∀ {x : TV} {us : List Value}, AsV c w x us → AsV c' w (shT n x) us
 | .val y, us, hr => by rw [shT]; rw [AsV] at hr ⊢; exact hr
 | .any, us, hr => by rw [shT]; rw [AsV] at hr ⊢; exact hr
 | .sl k cs, us, hr => by
  rw [shT]; rw [AsV] at hr ⊢
  obtain ⟨hk, hr⟩ := hr
  refine ⟨hk, ?_⟩
  rcases hr with hr | ⟨b, off, cap, vs, h1, h2, h3, h4, h5, h6⟩
  ·exact .inl hr
  ·exact .inr ⟨b, off, cap, vs, h1, h2, h3, h.keepF b h4, AsX.mono h.bare h5, h6⟩
 | .fp x, us, hr => by
  rw [shT]; rw [AsV] at hr ⊢
  obtain ⟨b, off, vs, h1, h4, h5, h6⟩ := hr
  exact ⟨b, off, vs, h1, h.keepF b h4, AsV.mono h.bare h5, h6⟩
 | .op id ver p, us, hr => by
  rw [shT]; rw [AsV] at hr ⊢
  exact ⟨h.has _ _ hr.1, by rw [h.beta]; exact hr.2⟩
 | .os k id ver p off m cp, us, hr => by
  rw [shT]; rw [AsV] at hr ⊢
  exact ⟨h.has _ _ hr.1, by rw [h.beta]; exact hr.2⟩
 | .agg cs, us, hr => by rw [shT]; rw [AsV] at hr ⊢; exact AsX.shift h hr
 | .arr m k cs, us, hr => by rw [shT]; rw [AsV] at hr ⊢; exact ⟨hr.1, hr.2.1, AsX.mono h.bare hr.2.2⟩
 | .tup cs, us, hr => by rw [AsV] at hr; exact hr.elim
 | .ifc t x, us, hr => by
  rw [shT]; rw [AsV] at hr ⊢
  obtain ⟨u, h1, vs, h2, h3⟩ := hr
  exact ⟨u, h1, vs, AsV.shift h h2, by rw [AMl]; exact h3⟩
 | .fn f a b, us, hr => by
  rw [shT]; rw [AsV] at hr ⊢
  obtain ⟨aS, bs, h1, h2, h3⟩ := hr
  exact ⟨aS, bs, h1, Atv.shift h h2, Atv.shift h h3⟩
 | .mp id ver, us, hr => by
  rw [shT]; rw [AsV] at hr ⊢
  exact ⟨h.has _ _ hr.1, by rw [h.beta]; exact hr.2⟩
 | .yl id ver, us, hr => by
  rw [shT]; rw [AsV] at hr ⊢
  exact ⟨h.has _ _ hr.1, by rw [h.beta]; exact hr.2⟩
theorem AsX.shift {c c' : Ctx} {w : World} {n : Nat} (h : AHY c c' n) : ∀ {xs : List TV} {us : List Value}, AsX c w xs us → AsX c' w (shL n xs) us
 | [], us, hr => by rw [shL]; rw [AsX] at hr ⊢; exact hr
 | x :: xs, us, hr => by
  rw [shL]; rw [AsX] at hr ⊢
  obtain ⟨a, b, h1, h2, h3⟩ := hr
  exact ⟨a, b, h1, AsV.shift h h2, AsX.shift h h3⟩
theorem Atv.shift {c c' : Ctx} {w : World} {n : Nat} (h : AHY c c' n) : ∀ {xs : List TV} {vs : List Value}, Atv c w xs vs → Atv c' w (shL n xs) vs
 | [], vs, hr => by rw [shL]; rw [Atv] at hr ⊢; exact hr
 | x :: xs, vs, hr => by
  rw [shL]; rw [Atv] at hr ⊢
  obtain ⟨u, us, h1, h2, h3⟩ := hr
  refine ⟨u, us, h1, ?_, Atv.shift h h3⟩
  rcases h2 with h2 | h2 | ⟨aS, h2, h4⟩
  ·exact .inl (by rw [h2, shT])
  ·exact .inr (.inl (by rw [h2, shT]))
  ·exact .inr (.inr ⟨aS, AsV.shift h h2, by rw [AMl]; exact h4⟩)
end
theorem AJB.shift {c c' : Ctx} {w : World} {n : Nat} (h : AHY c c' n) {x : TV} {v : Value} (hr : AJB c w x v) : AJB c' w (shT n x) v := by
 rcases hr with h2 | h2 | ⟨aS, h2, h4⟩
 ·exact .inl (by rw [h2, shT])
 ·exact .inr (.inl (by rw [h2, shT]))
 ·exact .inr (.inr ⟨aS, AsV.shift h h2, by rw [AMl]; exact h4⟩)
theorem Rep.shift {c c' : Ctx} {w : World} {n : Nat} (h : AHY c c' n) {x : TV} {v : Value} (hr : Rep c w x v) : Rep c' w (shT n x) v := by
 rcases hr with hr | ⟨xs, vs, h1, h2, h3⟩
 ·exact .inl (AJB.shift h hr)
 ·exact .inr ⟨shL n xs, vs, by rw [h1, shT], h2, Atv.shift h h3⟩
theorem Ate.shift {c c' : Ctx} {w : World} {n : Nat} (h : AHY c c' n) {kk : MK} : ∀ {es : List (List UInt8 × TV)} {ms : List MapEntry}, Ate c w kk es ms → Ate c' w kk (ALY n es) ms
 | [], ms, k => k
 | (q, x) :: es, ms, k => by
  obtain ⟨m, r, rfl, h1, h2, h3⟩ := k
  exact ⟨m, r, rfl, h1, ⟨AsV.shift h h2.1, by rw [AMl]; exact h2.2⟩, Ate.shift h h3⟩
theorem AHF.shift {c c' : Ctx} {w : World} {n : Nat} (h : AHY c c' n) {id : Nat} {o : Ob} (k : AHF c w id o) : AHF c' w (id + n) (shO n o) := by
 cases o with
 | obj ver x =>
  rcases k with ⟨k1, k2⟩ | ⟨b, off, pre, vs, post, t, fr, k1, k2, k3, k4, k5⟩
  ·exact .inl ⟨(h.beta _ _).trans k1, AsV.shift h k2⟩
  ·exact .inr ⟨b, off, pre, vs, post, t, fr, (h.beta _ _).trans k1, k2, k3, k4, AsV.shift h k5⟩
 | gone v => exact k
 | ice ver m x =>
  obtain ⟨b, off, pre, vs, post, t, fr, k1, k2, k3, k4, k5⟩ := k
  exact ⟨b, off, pre, vs, post, t, fr, (h.beta _ _).trans k1, k2, k3, k4, AsV.shift h k5⟩
 | fact i ver t m => exact ⟨h.has _ _ k.1, fun b o e => k.2 b o ((h.beta _ _).symm.trans e)⟩
 | bld ver t l =>
  rcases k with ⟨k1, k2⟩ | ⟨b, post, fr, k1, k2, k3⟩
  ·exact .inl ⟨(h.beta _ _).trans k1, k2⟩
  ·exact .inr ⟨b, post, fr, (h.beta _ _).trans k1, k2, k3⟩
 | lp st pend fn N e ps ca cb =>
  obtain ⟨b, tmps, D, k1, k2, k3, k4⟩ := k
  exact ⟨b, tmps, D, (h.beta _ _).trans k1, k2, k3, fun s => by rw [AJN]; exact Rep.shift h (k4 s)⟩
 | mpo kk es =>
  obtain ⟨b, ms, cl, k1, k2, k3, k4⟩ := k
  exact ⟨b, ms, cl, (h.beta _ _).trans k1, k2, Ate.shift h k3, k4⟩
 | sit s pos =>
  obtain ⟨b, k1, k2⟩ := k
  exact ⟨b, (h.beta _ _).trans k1, k2⟩
 | mpd kk zs cl =>
  obtain ⟨b, ms, k1, k2, k3, k4, k5⟩ := k
  exact ⟨b, ms, (h.beta _ _).trans k1, k2, by rw [AL0]; exact Ate.shift h k3, by rw [AI2]; exact k4, by rw [AI2]; exact k5⟩
 | mit m sn cl =>
  obtain ⟨r, b, k1, ⟨k2, k3⟩, k4⟩ := k
  exact ⟨r, b, (h.beta _ _).trans k1, ⟨h.has _ _ k2, (h.beta _ _).trans k3⟩, k4⟩

/-- WHAT A CALL DOES WHERE NO OBJECT IS, IT DOES AMONG OBJECTS: its own ones stand behind them. -/
theorem As1.behind {P : Program} {f : FuncId} {args : List TV} {R : TV → List Ob → Prop} {H : List Ob} {K : TV → List Ob → Prop} (h : As1 P f args [] R) (hp : At4 args = true) (hk : ∀ x H', R x H' → K (shT H.length x) (H ++ H'.map (shO H.length))) : As1 P f args H K := by
 intro β F w vs hs hv
 have hs0 : Sim ⟨β, [], F⟩ w := ⟨fun id o ho => by simp at ho, fun i j x y b o o' hx => by simp at hx, fun b hb => by obtain ⟨i, o, off, h1, _⟩ := hb; simp at h1, hs.lt, hs.glob⟩
 refine (h β F w vs hs0 (Atv.pure hp hv)).mono ?_
 rintro _ w' ⟨v, x, β0, H0, F', rfl, hR, hs', hl, hx⟩
 have hno : ∀ b, ¬ Ctx.own ⟨β, [], F⟩ b := fun b hb => by obtain ⟨i, o, off, h1, _⟩ := hb; simp at h1
 have hnew : ∀ b, Ctx.own ⟨β0, H0, F'⟩ b → w.heap.size ≤ b := fun b hb => Nat.le_of_not_lt fun hlt => hno b (hl.oldOwn b hlt hb)
 have hsame : ∀ b, b < w.heap.size → w'.heap[b]? = w.heap[b]? := fun b hb => hl.same b hb (hno b)
 have hst : ACc F w F' w' := ⟨hl.os, hl.tape, hl.output, hl.size, hsame, hl.keepF, fun b hb hF' => (hl.oldF b hb hF').resolve_right (hno b), hs'.lt⟩
 have hlow := hst.sim hs
 let β1 : Nat → Nat → Option (Nat × Nat) := fun i v => if i < H.length then β i v else β0 (i - H.length) v
 have b1 : ∀ i v, i < H.length → β1 i v = β i v := fun i v hi => if_pos hi
 have b2 : ∀ i v, β1 (i + H.length) v = β0 i v := fun i v => by
  show (if i + H.length < H.length then _ else _) = _
  rw [if_neg (by omega), Nat.add_sub_cancel]
 have g1 : ∀ i, i < H.length → (H ++ H0.map (shO H.length))[i]? = H[i]? := fun i hi => List.getElem?_append_left hi
 have g2 : ∀ i, (H ++ H0.map (shO H.length))[i + H.length]? = (H0[i]?).map (shO H.length) := fun i => by
  rw [List.getElem?_append_right (by omega), Nat.add_sub_cancel, List.getElem?_map]
 have hsh : AHY ⟨β0, H0, F'⟩ ⟨β1, H ++ H0.map (shO H.length), F'⟩ H.length := ⟨b2, fun id ver ⟨o, k1, k2⟩ => ⟨shO H.length o, by show (H ++ H0.map (shO H.length))[id + H.length]? = _; rw [g2]; have k1' : H0[id]? = some o := k1; rw [k1']; rfl, by rw [ACu]; exact k2⟩, fun b hb => hb⟩
 have hlt : ∀ {id : Nat} {o : Ob}, H[id]? = some o → id < H.length := fun k => (List.getElem?_eq_some_iff.1 k).1
 have hm : AwX ⟨β, H, F'⟩ w' ⟨β1, H ++ H0.map (shO H.length), F'⟩ w' := ⟨fun b hb => ⟨hb, rfl⟩, fun id ver ⟨o, k1, k2⟩ => ⟨⟨o, (g1 id (hlt k1)).trans k1, k2⟩, b1 id ver (hlt k1)⟩, fun _ _ => rfl⟩
 -- each object is an old one or a new one
 have two : ∀ (i : Nat) o, (H ++ H0.map (shO H.length))[i]? = some o → (i < H.length ∧ H[i]? = some o) ∨ ∃ j q, i = j + H.length ∧ H0[j]? = some q ∧ o = shO H.length q := fun i o ho => by
  by_cases hi : i < H.length
  ·exact .inl ⟨hi, (g1 i hi).symm.trans ho⟩
  ·obtain ⟨j, rfl⟩ : ∃ j, i = j + H.length := ⟨i - H.length, by omega⟩
   rw [g2] at ho
   obtain ⟨q, hq, rfl⟩ := Option.map_eq_some_iff.1 ho
   exact .inr ⟨j, q, rfl, hq, rfl⟩
 have ownlow : ∀ {i : Nat} {o : Ob} {b off : Nat}, H[i]? = some o → o.live = true → β i o.ver = some (b, off) → b < w.heap.size := fun k1 k2 k3 => hs.own_lt ⟨_, _, _, k1, k2, k3⟩
 have ownnew : ∀ {i : Nat} {o : Ob} {b off : Nat}, H0[i]? = some o → o.live = true → β0 i o.ver = some (b, off) → w.heap.size ≤ b := fun k1 k2 k3 => hnew _ ⟨_, _, _, k1, k2, k3⟩
 refine ⟨v, shT H.length x, β1, H ++ H0.map (shO H.length), F', rfl, hk x H0 hR, ⟨fun id o ho => ?_, fun i j x y b o o' hx hy lx ly ex ey => ?_, fun b hb hF => ?_, hs'.lt, hs'.glob⟩, ⟨hl.os, hl.tape, hl.output, hl.size, fun id ver ⟨o, k1, k2⟩ => ⟨⟨o, (g1 id (hlt k1)).trans k1, k2⟩, b1 id ver (hlt k1)⟩, hl.shape, fun b hb _ => hsame b hb, hl.keepF, fun b hb hF => .inl (hst.oldF b hb hF), fun b hb ho => ?_⟩, Rep.shift hsh hx⟩
 ·rcases two id o ho with ⟨hi, k⟩ | ⟨j, q, rfl, k, rfl⟩
  ·exact AHF.mono hm ⟨o, k, Nat.le_refl _⟩ (fun _ _ _ _ => rfl) (hlow.ob id o k)
  ·exact AHF.shift hsh (hs'.ob j q k)
 ·rcases two i x hx with ⟨hi, k⟩ | ⟨i', q, rfl, k, rfl⟩ <;> rcases two j y hy with ⟨hj, k'⟩ | ⟨j', q', rfl, k', rfl⟩
  ·rw [show (Ctx.mk β1 (H ++ H0.map (shO H.length)) F').β i x.ver = β i x.ver from b1 _ _ hi] at ex
   rw [show (Ctx.mk β1 (H ++ H0.map (shO H.length)) F').β j y.ver = β j y.ver from b1 _ _ hj] at ey
   exact hs.inj i j x y b o o' k k' lx ly ex ey
  ·rw [show (Ctx.mk β1 (H ++ H0.map (shO H.length)) F').β i x.ver = β i x.ver from b1 _ _ hi] at ex
   rw [show (Ctx.mk β1 (H ++ H0.map (shO H.length)) F').β (j' + H.length) (shO H.length q').ver = β0 j' (shO H.length q').ver from b2 _ _, ACu] at ey
   rw [AEL] at ly
   have a1 := ownlow k lx ex
   have a2 := ownnew k' ly ey
   omega
  ·rw [show (Ctx.mk β1 (H ++ H0.map (shO H.length)) F').β (i' + H.length) (shO H.length q).ver = β0 i' (shO H.length q).ver from b2 _ _, ACu] at ex
   rw [show (Ctx.mk β1 (H ++ H0.map (shO H.length)) F').β j y.ver = β j y.ver from b1 _ _ hj] at ey
   rw [AEL] at lx
   have a1 := ownlow k' ly ey
   have a2 := ownnew k lx ex
   omega
  ·rw [show (Ctx.mk β1 (H ++ H0.map (shO H.length)) F').β (i' + H.length) (shO H.length q).ver = β0 i' (shO H.length q).ver from b2 _ _, ACu] at ex
   rw [show (Ctx.mk β1 (H ++ H0.map (shO H.length)) F').β (j' + H.length) (shO H.length q').ver = β0 j' (shO H.length q').ver from b2 _ _, ACu] at ey
   rw [AEL] at lx ly
   rw [hs'.inj i' j' q q' b o o' k k' lx ly ex ey]
 ·obtain ⟨i, o, off, k1, k2, k3⟩ := hb
  rcases two i o k1 with ⟨hi, k⟩ | ⟨j, q, rfl, k, rfl⟩
  ·rw [show (Ctx.mk β1 (H ++ H0.map (shO H.length)) F').β i o.ver = β i o.ver from b1 _ _ hi] at k3
   exact hlow.apart b ⟨i, o, off, k, k2, k3⟩ hF
  ·rw [show (Ctx.mk β1 (H ++ H0.map (shO H.length)) F').β (j + H.length) (shO H.length q).ver = β0 j (shO H.length q).ver from b2 _ _, ACu] at k3
   rw [AEL] at k2
   exact hs'.apart b ⟨j, q, off, k, k2, k3⟩ hF
 ·obtain ⟨i, o, off, k1, k2, k3⟩ := ho
  rcases two i o k1 with ⟨hi, k⟩ | ⟨j, q, rfl, k, rfl⟩
  ·rw [show (Ctx.mk β1 (H ++ H0.map (shO H.length)) F').β i o.ver = β i o.ver from b1 _ _ hi] at k3
   exact ⟨i, o, off, k, k2, k3⟩
  ·rw [show (Ctx.mk β1 (H ++ H0.map (shO H.length)) F').β (j + H.length) (shO H.length q).ver = β0 j (shO H.length q).ver from b2 _ _, ACu] at k3
   rw [AEL] at k2
   have := ownnew k k2 k3
   omega
end Go.Proofs.YtingoaihnlhiaaaDoor


namespace Go.Proofs.YtingoaihnlhiaaaDoor
open Go.RowKit
variable [AtT]
set_option linter.unusedSectionVars false
set_option linter.unusedVariables false
set_option linter.unusedSimpArgs false

/-- Less, by bytes. -/
def ltB (a b : List UInt8) : Prop := a < b
theorem ATH (a b : List UInt8) : Op.bytesLess a b = decide (a < b) := bytesLess_eq a b
theorem AxE (a : List UInt8) : ¬ ltB a a := List.lt_irrefl a
theorem Axe {a b c : List UInt8} (h : ltB a b) (k : ltB b c) : ltB a c := List.lt_trans h k
theorem AE9 {a b : List UInt8} (h1 : ¬ ltB a b) (h2 : ¬ ltB b a) : a = b := List.le_antisymm (List.not_lt.1 h2) (List.not_lt.1 h1)
instance (a b : List UInt8) : Decidable (ltB a b) := inferInstanceAs (Decidable (a < b))

/-- Sorted, each once. -/
abbrev SD (l : List (List UInt8)) : Prop := l.Pairwise ltB
theorem SD.ext : ∀ {a b : List (List UInt8)}, SD a → SD b → (∀ x, x ∈ a ↔ x ∈ b) → a = b
 | [], [], _, _, _ => rfl
 | [], y :: b, _, _, h => absurd ((h y).2 (by simp)) (by simp)
 | x :: a, [], _, _, h => absurd ((h x).1 (by simp)) (by simp)
 | x :: a, y :: b, ha, hb, h => by
  rw [SD, List.pairwise_cons] at ha hb
  have hxy : x = y := by
   rcases List.mem_cons.1 ((h x).1 (by simp)) with e | e
   ·exact e
   ·rcases List.mem_cons.1 ((h y).2 (by simp)) with e2 | e2
    ·exact e2.symm
    ·exact absurd (Axe (ha.1 y e2) (hb.1 x e)) (AxE x)
  subst hxy
  congr 1
  refine SD.ext ha.2 hb.2 fun z => ⟨fun hz => ?_, fun hz => ?_⟩
  ·rcases List.mem_cons.1 ((h z).1 (List.mem_cons_of_mem _ hz)) with e | e
   ·subst e; exact absurd (ha.1 z hz) (AxE z)
   ·exact e
  ·rcases List.mem_cons.1 ((h z).2 (List.mem_cons_of_mem _ hz)) with e | e
   ·subst e; exact absurd (hb.1 z hz) (AxE z)
   ·exact e
theorem SD.nodup {l : List (List UInt8)} (h : SD l) : l.Nodup := List.Pairwise.imp (fun h e => by subst e; exact AxE _ h) h
theorem SD.filter {l : List (List UInt8)} (h : SD l) (p : List UInt8 → Bool) : SD (l.filter p) := List.Pairwise.filter p h
/-- One more, at the place behind all that are less. -/
theorem SD.insert {out : List (List UInt8)} (h : SD out) {x : List UInt8} {at' : Nat} (hle : at' ≤ out.length) (h1 : ∀ (k : Nat) y, k < at' → out[k]? = some y → ltB y x) (h2 : ∀ y, out[at']? = some y → ¬ ltB y x ∧ y ≠ x) : SD (out.take at' ++ [x] ++ out.drop at') ∧ ∀ z, z ∈ out.take at' ++ [x] ++ out.drop at' ↔ z = x ∨ z ∈ out := by
 have hmem : ∀ z, z ∈ out.take at' ++ [x] ++ out.drop at' ↔ z = x ∨ z ∈ out := by
  intro z
  conv => rhs; rw [← List.take_append_drop at' out]
  simp only [List.mem_append, List.mem_singleton]
  constructor
  ·rintro ((h | h) | h)
   ·exact .inr (.inl h)
   ·exact .inl h
   ·exact .inr (.inr h)
  ·rintro (h | h | h)
   ·exact .inl (.inr h)
   ·exact .inl (.inl h)
   ·exact .inr h
 refine ⟨?_, hmem⟩
 have hT : ∀ y ∈ out.take at', ltB y x := by
  intro y hy
  obtain ⟨k, hk⟩ := List.getElem?_of_mem hy
  rw [List.getElem?_take] at hk
  split at hk
  ·exact h1 k y (by assumption) hk
  ·cases hk
 have hD : ∀ y ∈ out.drop at', ltB x y := by
  intro y hy
  obtain ⟨k, hk⟩ := List.getElem?_of_mem hy
  rw [List.getElem?_drop] at hk
  have hlt : at' < out.length := by have := (List.getElem?_eq_some_iff.1 hk).1; omega
  obtain ⟨h3, h4⟩ := h2 _ (List.getElem?_eq_getElem hlt)
  have h5 : ltB x out[at'] := by
   by_cases e : ltB x out[at']
   ·exact e
   ·exact absurd (AE9 h3 e) h4
  rcases Nat.eq_zero_or_pos k with rfl | hp
  ·rw [Nat.add_zero, List.getElem?_eq_getElem hlt] at hk; cases hk; exact h5
  ·have hlt2 := (List.getElem?_eq_some_iff.1 hk).1
   have h6 := (List.pairwise_iff_getElem.1 h) at' (at' + k) hlt hlt2 (by omega)
   rw [List.getElem?_eq_getElem hlt2] at hk; cases hk
   exact Axe h5 h6
 have hsub := h.sublist (List.take_sublist at' out)
 have hsub2 := h.sublist (List.drop_sublist at' out)
 rw [SD, List.pairwise_append, List.pairwise_append]
 refine ⟨⟨hsub, by simp, fun a ha b hb => ?_⟩, hsub2, fun a ha b hb => ?_⟩
 ·rw [List.mem_singleton.1 hb]; exact hT a ha
 ·rcases List.mem_append.1 ha with ha | ha
  ·exact Axe (hT a ha) (hD b hb)
  ·rw [List.mem_singleton.1 ha]; exact hD b hb

/-- Each once, of a row whose equal ones stand side by side. -/
def dd : List (List UInt8) → List (List UInt8)
 | [] => []
 | [x] => [x]
 | x :: y :: l => if x = y then dd (y :: l) else x :: dd (y :: l)
theorem AIt : ∀ {l : List (List UInt8)} (z : List UInt8), z ∈ dd l ↔ z ∈ l
 | [], z => by rw [dd]
 | [x], z => by rw [dd]
 | x :: y :: l, z => by
  rw [dd]
  split
  ·rename_i e; subst e
   rw [AIt (l := x :: l)]; simp
  ·rw [List.mem_cons, AIt (l := y :: l), List.mem_cons (a := z) (b := x)]
theorem AP1 : ∀ {l : List (List UInt8)}, l.Pairwise (fun a b => ¬ ltB b a) → SD (dd l)
 | [], _ => by rw [dd]; exact List.Pairwise.nil
 | [x], _ => by rw [dd]; exact List.pairwise_singleton _ _
 | x :: y :: l, h => by
  rw [dd]
  have h' := List.pairwise_cons.1 h
  split
  ·exact AP1 h'.2
  ·rename_i e
   rw [SD, List.pairwise_cons]
   refine ⟨fun z hz => ?_, AP1 h'.2⟩
   rw [AIt] at hz
   have hxy : ltB x y := by
    by_cases k : ltB x y
    ·exact k
    ·exact absurd (AE9 k (h'.1 y (by simp))) e
   rcases List.mem_cons.1 hz with rfl | hz2
   ·exact hxy
   ·by_cases k : ltB y z
    ·exact Axe hxy k
    ·have k2 : ¬ ltB z y := (List.pairwise_cons.1 h'.2).1 z hz2
     rw [← AE9 k k2]; exact hxy
theorem APJ : ∀ {a b : List UInt8}, Lib.compareBytes a b < 0 ↔ ltB a b
 | [], [] => by simp [Lib.compareBytes, ltB]
 | [], _ :: _ => by simp [Lib.compareBytes, ltB]
 | _ :: _, [] => by simp [Lib.compareBytes, ltB]
 | a :: xs, b :: ys => by
  have ih := APJ (a := xs) (b := ys)
  unfold ltB at ih ⊢
  rw [Lib.compareBytes, List.cons_lt_cons_iff]
  by_cases h1 : a < b
  ·simp [h1]
  ·by_cases h2 : b < a
   ·have hne : a ≠ b := fun e => by subst e; exact h1 h2
    simp [h1, h2, hne]
   ·have he : a = b := UInt8.le_antisymm (UInt8.not_lt.1 h2) (UInt8.not_lt.1 h1)
    rw [if_neg h1, if_neg h2, ih]
    simp [h1, he]
end Go.Proofs.YtingoaihnlhiaaaDoor


namespace Go.Proofs.YtingoaihnlhiaaaDoor
open Go.RowKit
variable [AtT]
set_option linter.unusedSectionVars false
set_option linter.unusedVariables false
set_option autoImplicit false

theorem Rc.trans {l : List Nd} {S : List (List UInt8)} {x y : List UInt8} (h : Rc l S x) (k : Rc l [x] y) : Rc l S y := Rc.mono (fun z hz => by rw [List.mem_singleton.1 hz]; exact h) k
/-- What is reached is reached from one of them. -/
theorem Rc.one {l : List Nd} {S : List (List UInt8)} {x : List UInt8} (h : Rc l S x) : ∃ s ∈ S, Rc l [s] x := by
 induction h with
 | base h1 => exact ⟨_, h1, .base (by simp)⟩
 | step h1 h2 ih => obtain ⟨s, hs, hr⟩ := ih; exact ⟨s, hs, .step hr h2⟩
/-- From one: it itself, or what its parents reach. -/
theorem Rc.first {l : List Nd} {s x : List UInt8} (h : Rc l [s] x) : x = s ∨ Rc l (pOf l s) x := by
 induction h with
 | base h1 => exact .inl (List.mem_singleton.1 h1)
 | step h1 h2 ih =>
  rcases ih with rfl | ih
  ·exact .inr (.base h2)
  ·exact .inr (.step ih h2)
theorem Rc.up {l : List Nd} {s x : List UInt8} (h : Rc l (pOf l s) x) : Rc l [s] x := Rc.mono (fun y hy => .step (.base (by simp)) hy) h
/-- What the parents of some reach: of these it is what another one reaches. -/
theorem AKv {l : List Nd} (hok : GOk l) {D : List (List UInt8)} (hD : ∀ x ∈ D, x ∈ As8 l) {s : List UInt8} (hs : s ∈ D) : Rc l (D.flatMap (pOf l)) s ↔ ∃ k ∈ D, k ≠ s ∧ Rc l [k] s := by
 constructor
 ·intro h
  obtain ⟨p, hp, hr⟩ := Rc.one h
  obtain ⟨k, hk, hpk⟩ := List.mem_flatMap.1 hp
  have h1 : Rc l (pOf l k) s := Rc.mono (fun z hz => by rw [List.mem_singleton.1 hz]; exact .base hpk) hr
  refine ⟨k, hk, ?_, Rc.up h1⟩
  rintro rfl
  obtain ⟨n, hn, rfl⟩ := List.mem_map.1 (hD k hk)
  rw [AIa hok.1.nodup hn] at h1
  exact hok.2 ⟨n, hn, h1⟩
 ·rintro ⟨k, hk, hne, h⟩
  rcases Rc.first h with e | h
  ·exact absurd e.symm hne
  ·exact Rc.mono (fun z hz => .base (List.mem_flatMap.2 ⟨k, hk, hz⟩)) h

/-- A SEARCH: what was seen, and what is still to be seen. -/
structure AF2 (l : List Nd) (S seen todo : List (List UInt8)) : Prop where
 hseen : ∀ x ∈ seen, Rc l S x
 htodo : ∀ x ∈ todo, Rc l S x
 all : ∀ x ∈ S, x ∈ seen ∨ x ∈ todo
 next : ∀ x ∈ seen, ∀ y ∈ pOf l x, y ∈ seen ∨ y ∈ todo
 nodup : seen.Nodup
theorem AF2.start {l : List Nd} {S : List (List UInt8)} : AF2 l S [] S := ⟨by simp, fun x h => .base h, fun x h => .inr h, by simp, List.nodup_nil⟩
theorem AF2.skip {l : List Nd} {S seen todo : List (List UInt8)} {x : List UInt8} (h : AF2 l S seen (todo ++ [x])) (hx : x ∈ seen) : AF2 l S seen todo :=
 ⟨h.hseen, fun y hy => h.htodo y (List.mem_append_left _ hy), fun y hy => by
  rcases h.all y hy with k | k
  ·exact .inl k
  ·rcases List.mem_append.1 k with k | k
   ·exact .inr k
   ·rw [List.mem_singleton.1 k]; exact .inl hx, fun z hz y hy => by
  rcases h.next z hz y hy with k | k
  ·exact .inl k
  ·rcases List.mem_append.1 k with k | k
   ·exact .inr k
   ·rw [List.mem_singleton.1 k]; exact .inl hx, h.nodup⟩
theorem AF2.take {l : List Nd} {S seen todo : List (List UInt8)} {x : List UInt8} (h : AF2 l S seen (todo ++ [x])) (hx : ¬ x ∈ seen) : AF2 l S (seen ++ [x]) (todo ++ pOf l x) :=
 ⟨fun y hy => by
  rcases List.mem_append.1 hy with k | k
  ·exact h.hseen y k
  ·rw [List.mem_singleton.1 k]; exact h.htodo x (by simp), fun y hy => by
  rcases List.mem_append.1 hy with k | k
  ·exact h.htodo y (List.mem_append_left _ k)
  ·exact .step (h.htodo x (by simp)) k, fun y hy => by
  rcases h.all y hy with k | k
  ·exact .inl (List.mem_append_left _ k)
  ·rcases List.mem_append.1 k with k | k
   ·exact .inr (List.mem_append_left _ k)
   ·exact .inl (List.mem_append_right _ k), fun z hz y hy => by
  rcases List.mem_append.1 hz with hz | hz
  ·rcases h.next z hz y hy with k | k
   ·exact .inl (List.mem_append_left _ k)
   ·rcases List.mem_append.1 k with k | k
    ·exact .inr (List.mem_append_left _ k)
    ·exact .inl (List.mem_append_right _ k)
  ·rw [List.mem_singleton.1 hz] at hy
   exact .inr (List.mem_append_right _ hy), by
  rw [List.nodup_append]
  exact ⟨h.nodup, by simp, fun a ha b hb e => by rw [List.mem_singleton] at hb; subst hb; subst e; exact hx ha⟩⟩
theorem AF2.done {l : List Nd} {S seen : List (List UInt8)} (h : AF2 l S seen []) (x : List UInt8) : x ∈ seen ↔ Rc l S x := by
 constructor
 ·exact h.hseen x
 ·intro k
  induction k with
  | base h1 => exact (h.all _ h1).resolve_right (by simp)
  | step h1 h2 ih => exact (h.next _ ih _ h2).resolve_right (by simp)
/-- How long it may go on: what may still be laid up. -/
def AF2.left (l : List Nd) (seen todo : List (List UInt8)) : Nat := todo.length + ((l.filter fun n => !seen.contains n.id).map fun n => n.ps.length + 1).sum
theorem AF2.le {l : List Nd} (hn : (As8 l).Nodup) {seen todo : List (List UInt8)} {n : Nd} (hnl : n ∈ l) (hx : ¬ n.id ∈ seen) : AF2.left l (seen ++ [n.id]) (todo ++ n.ps) < AF2.left l seen (todo ++ [n.id]) := by
 unfold AF2.left
 simp only [List.length_append, List.length_singleton]
 have key : ∀ (m : List Nd), (As8 m).Nodup → n ∈ m → ((m.filter fun q => !(seen ++ [n.id]).contains q.id).map fun q => q.ps.length + 1).sum + (n.ps.length + 1) = ((m.filter fun q => !seen.contains q.id).map fun q => q.ps.length + 1).sum := by
  intro m
  induction m with
  | nil => intro _ h; cases h
  | cons a m ih =>
   intro hnd hm
   rw [As8, List.map_cons, List.nodup_cons] at hnd
   rcases List.mem_cons.1 hm with rfl | hm
   ·have e1 : (!(seen ++ [n.id]).contains n.id) = false := by simp
    have e2 : (!seen.contains n.id) = true := by simpa using hx
    rw [List.filter_cons_of_neg (by rw [e1]; simp), List.filter_cons_of_pos (by rw [e2])]
    rw [List.map_cons, List.sum_cons]
    have e3 : (m.filter fun q => !(seen ++ [n.id]).contains q.id) = m.filter fun q => !seen.contains q.id := by
     refine List.filter_congr fun q hq => ?_
     have hne : q.id ≠ n.id := fun e => hnd.1 (e ▸ List.mem_map.2 ⟨q, hq, rfl⟩)
     simp [hne]
    rw [e3]; omega
   ·have hne : a.id ≠ n.id := fun e => hnd.1 (e ▸ List.mem_map.2 ⟨n, hm, rfl⟩)
    have ih' := ih hnd.2 hm
    by_cases ha : a.id ∈ seen
    ·rw [List.filter_cons_of_neg (by simp [ha]), List.filter_cons_of_neg (by simp [ha])]
     exact ih'
    ·rw [List.filter_cons_of_pos (by simp [ha, hne]), List.filter_cons_of_pos (by simp [ha]), List.map_cons, List.map_cons, List.sum_cons, List.sum_cons]
     omega
 have := key l hn hnl
 omega
end Go.Proofs.YtingoaihnlhiaaaDoor


namespace Go.Proofs.YtingoaihnlhiaaaDoor
open Go.RowKit
variable [AtT]
set_option linter.unusedSectionVars false
set_option linter.unusedVariables false
set_option linter.unusedSimpArgs false

noncomputable def AWy (l : List Nd) : Nat := @ite _ (GOk l) (Classical.propDecidable _) 0 80
theorem AJu {l : List Nd} (h : GOk l) : AWy l = 0 := by unfold AWy; rw [if_pos h]
theorem AFP {l : List Nd} (h : ¬ GOk l) : AWy l = 80 := by unfold AWy; rw [if_neg h]
/-- Each is the first one of its id. -/
theorem AKa {l : List Nd} (h : ∀ i (hi : i < l.length), fnd l l[i].id = i) : (As8 l).Nodup := by
 rw [List.nodup_iff_pairwise_ne, List.pairwise_iff_getElem]
 intro i j hi hj hij e
 rw [As8, List.length_map] at hi hj
 simp only [As8, List.getElem_map] at e
 have h1 := h i hi
 have h2 := h j hj
 rw [e, h2] at h1
 omega
theorem AP6 (l : List Nd) (hl : l.length ≤ 1000) (hp : ∀ n ∈ l, n.ps.length ≤ 1000) : Avh Tryd.prog 27 [.sl 22 (l.map ndT)] (fun r => r = i64 ((AWy l : Nat) : Int)) := by
 refine As1.toPureV (AJn (by simp) ?_)
 simp -dsimp (disch := first | assumption | omega) only [↓AsR, AsO, AsT, AsU, eq_self, forall_const, Nat.reduceLT, Nat.reduceEqDiff, Nat.reduceSub, Nat.reduceMul, Nat.reduceMod, Nat.reduceDiv, Nat.reducePow, UInt8.reduceToNat, Int.reduceEq, Int.reduceLT, Int.reduceLE, ↓reduceIte, Nat.reduceAdd, Int.reduceToNat, reduceCtorEq, Nat.reduceLeDiff, ↓AtL]
 refine At5 (fun q e H => ∃ i : Nat, q = l.length - i ∧ i ≤ l.length ∧ (∀ k (hk : k < l.length), k < i → fnd l l[k].id = k ∧ ∀ p ∈ l[k].ps, p ∈ As8 l) ∧ e = [(0, .sl 22 (l.map ndT)), (3, i64 (i : Int))] ∧ H = []) l.length ?_ ?_
 ·exact ⟨0, by simp, by simp, fun k _ hk => by omega, rfl, rfl⟩
 ·rintro q e H ⟨i, rfl, hi, h0, rfl, rfl⟩
  by_cases h : i < l.length
  ·have hg : l[i]? = some l[i] := List.getElem?_eq_getElem h
   have hpi := hp l[i] (List.getElem_mem h)
   simp -dsimp (disch := first | assumption | omega) only [↓AsR, AsO, AsT, AsU, eq_self, forall_const, Nat.reduceLT, Nat.reduceEqDiff, Nat.reduceSub, Nat.reduceMul, Nat.reduceMod, Nat.reduceDiv, Nat.reducePow, UInt8.reduceToNat, Int.reduceEq, Int.reduceLT, Int.reduceLE, ↓reduceIte, Nat.reduceAdd, Int.reduceToNat, reduceCtorEq, Nat.reduceLeDiff, ↓AtL, hg, AtA]
   refine (AG4 l l[i].id (by omega)).calls rfl ?_
   rintro r rfl
   obtain ⟨j, hj, hjf, hje⟩ := ABF (Ay2 (List.getElem_mem h))
   by_cases hji : j = i
   ·subst hji
    generalize hn : l[j] = n at *
    rw [hjf]
    simp -dsimp (disch := first | assumption | omega) only [↓AsR, AsO, AsT, AsU, eq_self, forall_const, Nat.reduceLT, Nat.reduceEqDiff, Nat.reduceSub, Nat.reduceMul, Nat.reduceMod, Nat.reduceDiv, Nat.reducePow, UInt8.reduceToNat, Int.reduceEq, Int.reduceLT, Int.reduceLE, ↓reduceIte, Nat.reduceAdd, Int.reduceToNat, reduceCtorEq, Nat.reduceLeDiff, ↓AtL, hg, AtA]
    refine At5 (fun q e H => ∃ k : Nat, q = n.ps.length - k ∧ k ≤ n.ps.length ∧ (∀ p ∈ n.ps.take k, p ∈ As8 l) ∧ e = [(0, .sl 22 (l.map ndT)), (3, i64 (j : Int)), (4, i64 (k : Int))] ∧ H = []) n.ps.length ?_ ?_
    ·exact ⟨0, by simp, by simp, by simp, rfl, rfl⟩
    ·rintro q e H ⟨k, rfl, hk, h1, rfl, rfl⟩
     by_cases h2 : k < n.ps.length
     ·have hg2 : n.ps[k]? = some n.ps[k] := List.getElem?_eq_getElem h2
      have hsucc := List.take_succ_eq_append_getElem h2
      have hmem := List.getElem_mem h2
      have hneg := ATZ (l := l) (x := n.ps[k])
      generalize n.ps[k] = x at *
      simp -dsimp (disch := first | assumption | omega) only [↓AsR, AsO, AsT, AsU, eq_self, forall_const, Nat.reduceLT, Nat.reduceEqDiff, Nat.reduceSub, Nat.reduceMul, Nat.reduceMod, Nat.reduceDiv, Nat.reducePow, UInt8.reduceToNat, Int.reduceEq, Int.reduceLT, Int.reduceLE, ↓reduceIte, Nat.reduceAdd, Int.reduceToNat, reduceCtorEq, Nat.reduceLeDiff, ↓AtL, hg, hg2, AtA, Atr, Ata, Atl]
      refine (AG4 l x (by omega)).calls rfl ?_
      rintro r rfl
      by_cases hx : x ∈ As8 l
      ·obtain ⟨m, _, hmf, _⟩ := ABF hx
       rw [hmf]
       simp -dsimp (disch := first | assumption | omega) only [↓AsR, AsO, AsT, AsU, eq_self, forall_const, Nat.reduceLT, Nat.reduceEqDiff, Nat.reduceSub, Nat.reduceMul, Nat.reduceMod, Nat.reduceDiv, Nat.reducePow, UInt8.reduceToNat, Int.reduceEq, Int.reduceLT, Int.reduceLE, ↓reduceIte, Nat.reduceAdd, Int.reduceToNat, reduceCtorEq, Nat.reduceLeDiff, ↓AtL]
       refine Atd (n.ps.length - (k + 1)) (by omega) (by simp) ⟨k + 1, rfl, by omega, fun p hp' => ?_, rfl, rfl⟩
       rw [hsucc, List.mem_append, List.mem_singleton] at hp'
       rcases hp' with hp' | rfl
       ·exact h1 p hp'
       ·exact hx
      ·have hfx : fnd l x = -1 := by
        unfold fnd
        rw [if_neg (fun ⟨m, hm, e⟩ => hx (e ▸ Ay2 hm))]
       rw [hfx, AFP fun hok => hx (hok.1.there n (hn ▸ List.getElem_mem h) x hmem)]
       simp -dsimp (disch := first | assumption | omega) only [↓AsR, AsO, AsT, AsU, eq_self, forall_const, Nat.reduceLT, Nat.reduceEqDiff, Nat.reduceSub, Nat.reduceMul, Nat.reduceMod, Nat.reduceDiv, Nat.reducePow, UInt8.reduceToNat, Int.reduceEq, Int.reduceLT, Int.reduceLE, ↓reduceIte, Nat.reduceAdd, Int.reduceToNat, reduceCtorEq, Nat.reduceLeDiff, ↓AtL]
     ·have hk2 : k = n.ps.length := by omega
      rw [hk2, List.take_length] at h1
      simp -dsimp (disch := first | assumption | omega) only [↓AsR, AsO, AsT, AsU, eq_self, forall_const, Nat.reduceLT, Nat.reduceEqDiff, Nat.reduceSub, Nat.reduceMul, Nat.reduceMod, Nat.reduceDiv, Nat.reducePow, UInt8.reduceToNat, Int.reduceEq, Int.reduceLT, Int.reduceLE, ↓reduceIte, Nat.reduceAdd, Int.reduceToNat, reduceCtorEq, Nat.reduceLeDiff, ↓AtL, hg, AtA]
      refine Atd (l.length - (j + 1)) (by omega) (by simp) ⟨j + 1, rfl, by omega, fun k' hk' hkj => ?_, rfl, rfl⟩
      by_cases e : k' = j
      ·subst e; rw [hn]; exact ⟨hjf, h1⟩
      ·exact h0 k' hk' (by omega)
   ·rw [hjf, AFP fun hok => hji (by have := AGZ hok.1.nodup h; rw [hjf] at this; omega)]
    simp -dsimp (disch := first | assumption | omega) only [↓AsR, AsO, AsT, AsU, eq_self, forall_const, Nat.reduceLT, Nat.reduceEqDiff, Nat.reduceSub, Nat.reduceMul, Nat.reduceMod, Nat.reduceDiv, Nat.reducePow, UInt8.reduceToNat, Int.reduceEq, Int.reduceLT, Int.reduceLE, ↓reduceIte, Nat.reduceAdd, Int.reduceToNat, reduceCtorEq, Nat.reduceLeDiff, ↓AtL]
  ·have hv : AII l := ⟨AKa fun k hk => (h0 k hk (by omega)).1, fun n hn p hp' => by
    obtain ⟨k, hk, rfl⟩ := List.mem_iff_getElem.1 hn
    exact (h0 k hk (by omega)).2 p hp'⟩
   simp -dsimp (disch := first | assumption | omega) only [↓AsR, AsO, AsT, AsU, eq_self, forall_const, Nat.reduceLT, Nat.reduceEqDiff, Nat.reduceSub, Nat.reduceMul, Nat.reduceMod, Nat.reduceDiv, Nat.reducePow, UInt8.reduceToNat, Int.reduceEq, Int.reduceLT, Int.reduceLE, ↓reduceIte, Nat.reduceAdd, Int.reduceToNat, reduceCtorEq, Nat.reduceLeDiff, ↓AtL]
   refine At5 (fun q e H => ∃ i : Nat, q = l.length - i ∧ i ≤ l.length ∧ (∀ k (hk : k < l.length), k < i → ¬ Rc l l[k].ps l[k].id) ∧ e = [(0, .sl 22 (l.map ndT)), (6, i64 (i : Int))] ∧ H = []) l.length ?_ ?_
   ·exact ⟨0, by simp, by simp, fun k _ hk => by omega, rfl, rfl⟩
   ·clear h0 h hi
    rintro q e H ⟨i, rfl, hi, h0, rfl, rfl⟩
    by_cases h : i < l.length
    ·have hg : l[i]? = some l[i] := List.getElem?_eq_getElem h
     have hpi := hp l[i] (List.getElem_mem h)
     have hmem := List.getElem_mem h
     simp -dsimp (disch := first | assumption | omega) only [↓AsR, AsO, AsT, AsU, eq_self, forall_const, Nat.reduceLT, Nat.reduceEqDiff, Nat.reduceSub, Nat.reduceMul, Nat.reduceMod, Nat.reduceDiv, Nat.reducePow, UInt8.reduceToNat, Int.reduceEq, Int.reduceLT, Int.reduceLE, ↓reduceIte, Nat.reduceAdd, Int.reduceToNat, reduceCtorEq, Nat.reduceLeDiff, ↓AtL, hg, AtA]
     refine (AJC l l[i].ps hv hl (hv.there _ hmem) (fun n hn => by have := hp n hn; omega) (by omega)).calls rfl ?_
     rintro r rfl
     have hget := AB2 (l := l) (S := l[i].ps) h
     have hrl : (AuX l l[i].ps).length = l.length := AxF
     by_cases hr : Rc l l[i].ps l[i].id
     ·rw [AFP fun hok => hok.2 ⟨_, hmem, hr⟩]
      have hm := hget.2 hr
      simp -dsimp (disch := first | assumption | omega) only [↓AsR, AsO, AsT, AsU, eq_self, forall_const, Nat.reduceLT, Nat.reduceEqDiff, Nat.reduceSub, Nat.reduceMul, Nat.reduceMod, Nat.reduceDiv, Nat.reducePow, UInt8.reduceToNat, Int.reduceEq, Int.reduceLT, Int.reduceLE, ↓reduceIte, Nat.reduceAdd, Int.reduceToNat, reduceCtorEq, Nat.reduceLeDiff, ↓AtL, hm]
     ·have hm : (AuX l l[i].ps)[i]? = some false := by
       have h1 : (AuX l l[i].ps)[i]? = some (AuX l l[i].ps)[i] := List.getElem?_eq_getElem (by omega)
       cases hb : (AuX l l[i].ps)[i] with
       | false => rw [h1, hb]
       | true => exact absurd (hget.1 (by rw [h1, hb])) hr
      simp -dsimp (disch := first | assumption | omega) only [↓AsR, AsO, AsT, AsU, eq_self, forall_const, Nat.reduceLT, Nat.reduceEqDiff, Nat.reduceSub, Nat.reduceMul, Nat.reduceMod, Nat.reduceDiv, Nat.reducePow, UInt8.reduceToNat, Int.reduceEq, Int.reduceLT, Int.reduceLE, ↓reduceIte, Nat.reduceAdd, Int.reduceToNat, reduceCtorEq, Nat.reduceLeDiff, ↓AtL, hm]
      refine Atd (l.length - (i + 1)) (by omega) (by simp) ⟨i + 1, rfl, by omega, fun k hk hki => ?_, rfl, rfl⟩
      by_cases e : k = i
      ·subst e; exact hr
      ·exact h0 k hk (by omega)
    ·rw [AJu ⟨hv, fun ⟨n, hn, hr⟩ => by
      obtain ⟨k, hk, rfl⟩ := List.mem_iff_getElem.1 hn
      exact h0 k hk (by omega) hr⟩]
     simp -dsimp (disch := first | assumption | omega) only [↓AsR, AsO, AsT, AsU, eq_self, forall_const, Nat.reduceLT, Nat.reduceEqDiff, Nat.reduceSub, Nat.reduceMul, Nat.reduceMod, Nat.reduceDiv, Nat.reducePow, UInt8.reduceToNat, Int.reduceEq, Int.reduceLT, Int.reduceLE, ↓reduceIte, Nat.reduceAdd, Int.reduceToNat, reduceCtorEq, Nat.reduceLeDiff, ↓AtL]
end Go.Proofs.YtingoaihnlhiaaaDoor


namespace Go.Proofs.YtingoaihnlhiaaaDoor
open Go.RowKit
variable [AtT]
set_option linter.unusedSectionVars false
set_option linter.unusedVariables false
set_option autoImplicit false

theorem ASO {k l : List UInt8} {x : TV} : ∀ {es : List (List UInt8 × TV)}, Aw0 k (AwB l x es) = if l = k then some x else Aw0 k es
 | [] => by simp [AwB, Aw0]
 | (q, y) :: es => by
  rw [AwB]
  by_cases hq : q = l
  ·subst hq
   rw [if_pos rfl, Aw0, Aw0]
   by_cases h : q = k <;> simp [h]
  ·rw [if_neg hq, Aw0, Aw0, ASO]
   by_cases h : q = k
   ·subst h; rw [if_pos rfl, if_neg (fun e => hq e.symm), if_pos rfl]
   ·rw [if_neg h, if_neg h]
theorem AJe {k : List UInt8} {x : TV} : ∀ {es : List (List UInt8 × TV)}, (AwB k x es)[AEM k es]? = some (k, x)
 | [] => by simp [AwB, AEM]
 | (q, y) :: es => by
  rw [AwB, AEM]
  by_cases hq : q = k
  ·subst hq; simp
  ·rw [if_neg hq, if_neg hq, List.getElem?_cons_succ, AJe]
theorem AGF {k : List UInt8} {x y : TV} : ∀ {es : List (List UInt8 × TV)}, (AwB k x es).set (AEM k es) (k, y) = AwB k y es
 | [] => by simp [AwB, AEM]
 | (q, z) :: es => by
  rw [AwB, AEM]
  by_cases hq : q = k
  ·subst hq; simp [AwB]
  ·rw [if_neg hq, if_neg hq, List.set_cons_succ, AGF, AwB, if_neg hq]
theorem pr1 {α β : Type} {a : α} {b : β} : (a, b).1 = a := by simp
theorem pr2 {α β : Type} {a : α} {b : β} : (a, b).2 = b := by simp
theorem AMd {k : List UInt8} {x : TV} : ∀ {es : List (List UInt8 × TV)}, (AwB k x es).length = es.length + if k ∈ es.map (·.1) then 0 else 1
 | [] => by simp [AwB]
 | (q, y) :: es => by
  rw [AwB]
  by_cases hq : q = k
  ·subst hq; simp
  ·rw [if_neg hq, List.length_cons, AMd]
   have : ¬ k = q := fun e => hq e.symm
   simp only [List.map_cons, List.mem_cons, this, false_or, List.length_cons]
   omega
theorem AIY {k : List UInt8} {x : TV} : ∀ {es : List (List UInt8 × TV)}, ¬ k ∈ es.map (·.1) → AwB k x es = es ++ [(k, x)]
 | [], _ => by simp [AwB]
 | (q, y) :: es, h => by
  rw [List.map_cons, List.mem_cons, not_or] at h
  rw [AwB, if_neg (fun e => h.1 e.symm), AIY h.2, List.cons_append]
theorem AKP {k : List UInt8} {x : TV} : ∀ {es : List (List UInt8 × TV)} (y : List UInt8), y ∈ (AwB k x es).map (·.1) ↔ y = k ∨ y ∈ es.map (·.1)
 | [], y => by simp [AwB]
 | (q, z) :: es, y => by
  rw [AwB]
  by_cases hq : q = k
  ·subst hq; simp
  ·rw [if_neg hq, List.map_cons, List.mem_cons, AKP, List.map_cons, List.mem_cons]
   simp only []
   constructor
   ·rintro (h | h | h)
    ·exact .inr (.inl h)
    ·exact .inl h
    ·exact .inr (.inr h)
   ·rintro (h | h | h)
    ·exact .inr (.inl h)
    ·exact .inl h
    ·exact .inr (.inr h)

theorem AGE {α : Type} {P : List α → Prop} (h0 : P []) (hs : ∀ l a, P l → P (l ++ [a])) (l : List α) : P l := by
 have key : ∀ r : List α, P r.reverse := by
  intro r
  induction r with
  | nil => exact h0
  | cons a r ih => rw [List.reverse_cons]; exact hs _ _ ih
 have := key l.reverse
 rwa [List.reverse_reverse] at this
/-- Nodes by their ids, aS they are laid in, one by one. -/
def Att (l : List Nd) : List (List UInt8 × TV) := l.foldl (fun es n => AwB n.id (ndT n) es) []
theorem AxH {l : List Nd} {n : Nd} : Att (l ++ [n]) = AwB n.id (ndT n) (Att l) := by simp [Att]
theorem ALg {l : List Nd} : ∀ y, y ∈ (Att l).map (·.1) ↔ y ∈ As8 l := by
 refine AGE (P := fun l => ∀ y, y ∈ (Att l).map (·.1) ↔ y ∈ As8 l) ?_ ?_ l
 ·simp [Att, As8]
 ·intro l n ih y
  rw [AxH, AKP, ih]
  simp [As8, or_comm]
theorem AyN {l : List Nd} : (Att l).length ≤ l.length ∧ ((Att l).length = l.length ↔ (As8 l).Nodup) ∧ ((As8 l).Nodup → Att l = l.map fun n => (n.id, ndT n)) := by
 refine AGE (P := fun l => (Att l).length ≤ l.length ∧ ((Att l).length = l.length ↔ (As8 l).Nodup) ∧ ((As8 l).Nodup → Att l = l.map fun n => (n.id, ndT n))) ?_ ?_ l
 ·simp [Att, As8]
 ·intro l n ih
  obtain ⟨h1, h2, h3⟩ := ih
  have hk := ALg (l := l) n.id
  have hlen := AMd (k := n.id) (x := ndT n) (es := Att l)
  rw [AxH, List.length_append, List.length_singleton]
  have hnd : (As8 (l ++ [n])).Nodup ↔ (As8 l).Nodup ∧ ¬ n.id ∈ As8 l := by
   have e : As8 (l ++ [n]) = As8 l ++ [n.id] := by simp [As8]
   rw [e, List.nodup_append]
   constructor
   ·rintro ⟨g1, _, g2⟩
    exact ⟨g1, fun hm => g2 _ hm _ (by simp) rfl⟩
   ·rintro ⟨g1, g2⟩
    exact ⟨g1, by simp, fun a ha b hb => by rw [List.mem_singleton] at hb; subst hb; exact fun e => g2 (e ▸ ha)⟩
  by_cases hm : n.id ∈ As8 l
  ·rw [if_pos (hk.2 hm)] at hlen
   refine ⟨by omega, ⟨fun e => by omega, fun e => absurd hm (hnd.1 e).2⟩, fun e => absurd hm (hnd.1 e).2⟩
  ·rw [if_neg (fun h => hm (hk.1 h))] at hlen
   refine ⟨by omega, ⟨fun e => hnd.2 ⟨h2.1 (by omega), hm⟩, fun e => by have := h2.2 (hnd.1 e).1; omega⟩, fun e => ?_⟩
   rw [AIY (fun h => hm (hk.1 h)), h3 (hnd.1 e).1]
   simp
theorem AKt {l : List Nd} {x : List UInt8} : Aw0 x (l.map fun n => (n.id, ndT n)) = (l.find? fun n => n.id == x).map ndT := by
 induction l with
 | nil => rfl
 | cons n l ih =>
  rw [List.map_cons, Aw0, List.find?_cons]
  by_cases h : n.id = x
  ·simp [h]
  ·have : (n.id == x) = false := by simpa using h
   rw [if_neg h, this, ih]
theorem AyA {l : List Nd} (hn : (As8 l).Nodup) {n : Nd} (h : n ∈ l) : Aw0 n.id (Att l) = some (ndT n) := by
 rw [AyN.2.2 hn, AKt]
 obtain ⟨i, hi, rfl⟩ := List.mem_iff_getElem.1 h
 have : (l.find? fun m => m.id == l[i].id) = some l[i] := by
  rw [List.find?_eq_some_iff_getElem]
  refine ⟨by simp, i, hi, rfl, fun j hj => ?_⟩
  have := AGZ hn hi
  have hne : ¬ l[j].id = l[i].id := fun e => by
   have h2 := AGZ hn (i := j) (by omega)
   rw [e] at h2; omega
  simpa using hne
 rw [this]; rfl
theorem AG6 {l : List Nd} {x : List UInt8} (h : ¬ x ∈ As8 l) (hn : (As8 l).Nodup) : Aw0 x (Att l) = none := by
 rw [AyN.2.2 hn, AKt, Option.map_eq_none_iff, List.find?_eq_none]
 intro n hnl
 have : ¬ n.id = x := fun e => h (e ▸ Ay2 hnl)
 simpa using this

/-- No entry refers to an object. -/
def AyK (es : List (List UInt8 × TV)) : Prop := ∀ g, Au1 g (es.map (·.2)) = true
theorem AyK.put {es : List (List UInt8 × TV)} (h : AyK es) {k : List UInt8} {x : TV} (hx : ∀ g, Avc g x = true) : AyK (AwB k x es) := by
 intro g
 have h1 := h g
 clear h
 induction es with
 | nil => rw [AwB, List.map_cons, Au1, hx g]; rfl
 | cons e es ih =>
  obtain ⟨q, y⟩ := e
  rw [List.map_cons, Au1, Bool.and_eq_true] at h1
  rw [AwB]
  split
  ·rw [List.map_cons, Au1, hx g, h1.2]; rfl
  ·rw [List.map_cons, Au1, h1.1, ih h1.2]; rfl
theorem AyK.nil : AyK [] := fun g => rfl
theorem AuI {l : List Nd} : AyK (Att l) := by
 refine AGE (P := fun l => AyK (Att l)) AyK.nil (fun l n ih => ?_) l
 rw [AxH]
 exact ih.put fun g => by rw [AtA]; rfl
/-- A map that counts. -/
def AKW (es : List (List UInt8 × TV)) (f : List UInt8 → Nat) : Prop := ∀ y, (Aw0 y es).getD (i64 ((0 : Nat) : Int)) = i64 ((f y : Nat) : Int)
theorem AKW.put {es : List (List UInt8 × TV)} {f : List UInt8 → Nat} (h : AKW es f) (p : List UInt8) (n : Nat) : AKW (AwB p (i64 ((n : Nat) : Int)) es) (fun y => if p = y then n else f y) := by
 intro y
 rw [ASO]
 by_cases e : p = y
 ·simp [e]
 ·simp only [if_neg e]; exact h y
theorem AKW.congr {es : List (List UInt8 × TV)} {f g : List UInt8 → Nat} (h : AKW es f) (e : ∀ y, g y = f y) : AKW es g := fun y => by rw [e]; exact h y
theorem AKW.nil : AKW [] (fun _ => 0) := fun y => by rw [Aw0]; rfl

theorem AVw {l : List Nd} (hp : ∀ n ∈ l, n.ps.length ≤ 1000) (d : List (List UInt8)) (y : List UInt8) : kids l d y ≤ 1000 * l.length := by
 unfold kids
 refine Nat.le_trans List.count_le_length ?_
 rw [List.length_flatMap]
 induction l with
 | nil => simp
 | cons n l ih =>
  have h1 := ih fun m hm => hp m (by simp [hm])
  have h2 := hp n (by simp)
  rw [List.filter_cons, List.length_cons]
  split
  ·rw [List.map_cons, List.sum_cons]; omega
  ·omega
theorem ASv {l : List Nd} {y : List UInt8} : kids l [] y = (l.flatMap (·.ps)).count y := by
 unfold kids
 rw [List.filter_eq_self.2 (by simp)]
end Go.Proofs.YtingoaihnlhiaaaDoor


namespace Go.Proofs.YtingoaihnlhiaaaDoor
open Go.RowKit
variable [AtT]
set_option linter.unusedSectionVars false
set_option linter.unusedVariables false
set_option linter.unusedSimpArgs false

theorem AOF {n : Nd} : As7 (ndT n) = 22 := by rw [AtA]; rfl
theorem ARx {cs : List TV} {off m : Nat} {x : List UInt8} {fr : List (List UInt8)} (h : (cs.drop off).take (m + 1) = (x :: fr).map idT) : cs[off]? = some (idT x) ∧ (cs.drop (off + 1)).take m = fr.map idT := by
 have h0 : ((cs.drop off).take (m + 1))[0]? = some (idT x) := by rw [h]; rfl
 rw [List.getElem?_take, if_pos (by omega), List.getElem?_drop, Nat.add_zero] at h0
 refine ⟨h0, ?_⟩
 have h1 := congrArg (List.drop 1) h
 rw [List.drop_take, List.drop_drop] at h1
 simpa using h1

theorem AJo {l : List Nd} {n : Nd} {g : Nat} : Au1 g ((AwB n.id (TV.agg [TV.arr 20 1 (n.id.map by8), TV.sl 20 (n.ps.map idT), i64 n.tm]) (Att l)).map (·.2)) = true := (AuI.put (x := TV.agg _) fun g => rfl) g
abbrev AEu : Ob := .obj 0 (.agg [.mp 0 0, .val (.map none)])
theorem A0O (l : List Nd) (hl : l.length ≤ 1000) (hp : ∀ n ∈ l, n.ps.length ≤ 1000) : As1 Tryd.prog 35 [.sl 22 (l.map ndT)] [] (fun x H' =>
  (GOk l → x = .tup [.op 1 0 [], .val .nilIface] ∧ ∃ es o, H' = [.mpo (.arr 20) (Att l), AEu, .mpo (.arr 20) es, o]) ∧ (¬ GOk l → x = .tup [.val (.pointer none), .ifc 36 (i64 ((80 : Nat) : Int))])) := by
 refine AI1 (by simp) ?_
 simp -dsimp (disch := first | assumption | omega) only [↓AsR, AsO, AsT, AsU, eq_self, forall_const, Nat.reduceLT, Nat.reduceEqDiff, Nat.reduceSub, Nat.reduceMul, Nat.reduceMod, Nat.reduceDiv, Nat.reducePow, UInt8.reduceToNat, Int.reduceEq, Int.reduceLT, Int.reduceLE, ↓reduceIte, Nat.reduceAdd, Int.reduceToNat, reduceCtorEq, Nat.reduceLeDiff, ↓Atn]
 -- the nodes
 refine At5 (fun q e H => ∃ i : Nat, q = l.length - i ∧ i ≤ l.length ∧ e = [(0, .sl 22 (l.map ndT)), (4, .op 1 0 []), (26, .sl 22 (l.map ndT)), (27, i64 (l.length : Int)), (28, i64 (i : Int))] ∧ H = [.mpo (.arr 20) (Att (l.take i)), AEu]) l.length ?_ ?_
 ·exact ⟨0, by simp, by simp, rfl, by simp [Att]⟩
 ·rintro q e H ⟨i, rfl, hi, rfl, rfl⟩
  by_cases h : i < l.length
  ·have hg : l[i]? = some l[i] := List.getElem?_eq_getElem h
   have hsucc := List.take_succ_eq_append_getElem h
   generalize l[i] = n at *
   simp -dsimp (disch := first | assumption | omega) only [↓AsR, AsO, AsT, AsU, eq_self, forall_const, Nat.reduceLT, Nat.reduceEqDiff, Nat.reduceSub, Nat.reduceMul, Nat.reduceMod, Nat.reduceDiv, Nat.reducePow, UInt8.reduceToNat, Int.reduceEq, Int.reduceLT, Int.reduceLE, ↓reduceIte, Nat.reduceAdd, Int.reduceToNat, reduceCtorEq, Nat.reduceLeDiff, ↓Atn, hg, AtA]
   refine Ayk (l.length - (i + 1)) 2 (by omega) (by simp) rfl (by simp [Axw, AAp, Avc, Au1, AuI _, AJo]) ⟨i + 1, rfl, by omega, rfl, ?_⟩
   rw [hsucc, AxH, AtA]; rfl
  ·have hi2 : i = l.length := by omega
   rw [hi2, List.take_length]
   clear hi2 hi
   by_cases hn : (As8 l).Nodup
   case neg =>
    have h1 := (AyN (l := l)).1
    have h2 : ¬ (Att l).length = l.length := fun e => hn (AyN.2.1.1 e)
    have h3 : (Att l).length < l.length := by omega
    have hno : ¬ GOk l := fun hok => hn hok.1.nodup
    simp -dsimp (disch := first | assumption | omega) only [↓AsR, AsO, AsT, AsU, eq_self, forall_const, Nat.reduceLT, Nat.reduceEqDiff, Nat.reduceSub, Nat.reduceMul, Nat.reduceMod, Nat.reduceDiv, Nat.reducePow, UInt8.reduceToNat, Int.reduceEq, Int.reduceLT, Int.reduceLE, ↓reduceIte, Nat.reduceAdd, Int.reduceToNat, reduceCtorEq, Nat.reduceLeDiff, ↓Atn]
    exact ⟨fun hok => absurd hok hno, by simp⟩
   have hlen : (Att l).length = l.length := AyN.2.1.2 hn
   simp -dsimp (disch := first | assumption | omega) only [↓AsR, AsO, AsT, AsU, eq_self, forall_const, Nat.reduceLT, Nat.reduceEqDiff, Nat.reduceSub, Nat.reduceMul, Nat.reduceMod, Nat.reduceDiv, Nat.reducePow, UInt8.reduceToNat, Int.reduceEq, Int.reduceLT, Int.reduceLE, ↓reduceIte, Nat.reduceAdd, Int.reduceToNat, reduceCtorEq, Nat.reduceLeDiff, ↓Atn, hlen]
   -- who names whom
   refine At5 (fun q e H => ∃ (i : Nat) (es : List (List UInt8 × TV)) (f : List UInt8 → Nat), q = l.length - i ∧ i ≤ l.length ∧ (AKW es f ∧ AyK es) ∧ (∀ y, f y = ((l.take i).flatMap (·.ps)).count y) ∧ (∀ y, f y ≤ 1000 * i) ∧ (∀ n ∈ l.take i, ∀ p ∈ n.ps, p ∈ As8 l) ∧
    e = [(0, .sl 22 (l.map ndT)), (4, .op 1 0 []), (7, .mp 2 0), (55, .sl 22 (l.map ndT)), (56, i64 (l.length : Int)), (57, i64 (i : Int))] ∧ H = [.mpo (.arr 20) (Att l), AEu, .mpo (.arr 20) es]) l.length ?_ ?_
   ·exact ⟨0, [], fun _ => 0, by simp, by simp, ⟨AKW.nil, AyK.nil⟩, by simp, by simp, by simp, rfl, rfl⟩
   ·clear h i
    rintro q e H ⟨i, es, f, rfl, hi, ⟨hc, hbm⟩, hf, hb, hv, rfl, rfl⟩
    by_cases h : i < l.length
    ·have hg : l[i]? = some l[i] := List.getElem?_eq_getElem h
     have hsucc := List.take_succ_eq_append_getElem h
     have hpi := hp l[i] (List.getElem_mem h)
     have hmem := List.getElem_mem h
     generalize l[i] = n at *
     simp -dsimp (disch := first | assumption | omega) only [↓AsR, AsO, AsT, AsU, eq_self, forall_const, Nat.reduceLT, Nat.reduceEqDiff, Nat.reduceSub, Nat.reduceMul, Nat.reduceMod, Nat.reduceDiv, Nat.reducePow, UInt8.reduceToNat, Int.reduceEq, Int.reduceLT, Int.reduceLE, ↓reduceIte, Nat.reduceAdd, Int.reduceToNat, reduceCtorEq, Nat.reduceLeDiff, ↓Atn, hg, AtA]
     refine At5 (fun q e H => ∃ (k : Nat) (es : List (List UInt8 × TV)) (f' : List UInt8 → Nat), q = n.ps.length - k ∧ k ≤ n.ps.length ∧ (AKW es f' ∧ AyK es) ∧ (∀ y, f' y = f y + (n.ps.take k).count y) ∧ (∀ y, f' y ≤ 1000 * i + k) ∧ (∀ p ∈ n.ps.take k, p ∈ As8 l) ∧
      e = [(0, .sl 22 (l.map ndT)), (4, .op 1 0 []), (7, .mp 2 0), (55, .sl 22 (l.map ndT)), (56, i64 (l.length : Int)), (57, i64 (i : Int)), (62, .sl 20 (n.ps.map idT)), (63, i64 (n.ps.length : Int)), (64, i64 (k : Int))] ∧ H = [.mpo (.arr 20) (Att l), AEu, .mpo (.arr 20) es, .obj 0 (ndT n)]) n.ps.length ?_ ?_
     ·exact ⟨0, es, f, by simp, by simp, ⟨hc, hbm⟩, by simp, by simpa using hb, by simp, rfl, by rw [AtA]⟩
     ·clear hc hbm
      rintro q e H ⟨k, es, f', rfl, hk, ⟨hc, hbm⟩, hf2, hb2, hv2, rfl, rfl⟩
      by_cases h2 : k < n.ps.length
      ·have hg2 : n.ps[k]? = some n.ps[k] := List.getElem?_eq_getElem h2
       have hsucc2 := List.take_succ_eq_append_getElem h2
       have hpm := List.getElem_mem h2
       generalize n.ps[k] = p at *
       have hcp := hc p
       have hbp := hb2 p
       by_cases hpl : p ∈ As8 l
       ·obtain ⟨m, hm, hme⟩ := List.mem_map.1 hpl
        have hlook : Aw0 p (Att l) = some (ndT m) := by rw [← hme]; exact AyA hn hm
        simp -dsimp (disch := first | assumption | omega) only [↓AsR, AsO, AsT, AsU, eq_self, forall_const, Nat.reduceLT, Nat.reduceEqDiff, Nat.reduceSub, Nat.reduceMul, Nat.reduceMod, Nat.reduceDiv, Nat.reducePow, UInt8.reduceToNat, Int.reduceEq, Int.reduceLT, Int.reduceLE, ↓reduceIte, Nat.reduceAdd, Int.reduceToNat, reduceCtorEq, Nat.reduceLeDiff, ↓Atn, hg2, As9, hlook, AtA, Option.isSome_some, Option.isSome_none]
        simp -dsimp (disch := first | assumption | omega) only [↓AsR, AsO, AsT, AsU, eq_self, forall_const, Nat.reduceLT, Nat.reduceEqDiff, Nat.reduceSub, Nat.reduceMul, Nat.reduceMod, Nat.reduceDiv, Nat.reducePow, UInt8.reduceToNat, Int.reduceEq, Int.reduceLT, Int.reduceLE, ↓reduceIte, Nat.reduceAdd, Int.reduceToNat, reduceCtorEq, Nat.reduceLeDiff, ↓Atn, hcp, AJe, AGF, pr1, pr2]
        refine Ayk (n.ps.length - (k + 1)) 4 (by omega) (by simp) rfl (by simp [Axw, AAp, Avc, Au1, AuI _, hbm _, AtA, As9, (hbm.put (x := .val (.int .i64 ((f' p : Nat) + 1 : Int))) fun g => rfl) 4]) ⟨k + 1, _, _, rfl, by omega, ⟨hc.put p (f' p + 1), hbm.put fun g => rfl⟩, fun y => ?_, fun y => ?_, fun y hy => ?_, rfl, by rw [AtA]; rfl⟩
        ·rw [hsucc2, List.count_append, ← Nat.add_assoc, ← hf2 y]
         by_cases e : p = y
         ·subst e; simp
         ·simp [e]
        ·have := hb2 y
         by_cases e : p = y
         ·subst e; simp; omega
         ·simp [e]; omega
        ·rw [hsucc2, List.mem_append, List.mem_singleton] at hy
         rcases hy with hy | rfl
         ·exact hv2 y hy
         ·exact hpl
       ·have hlook := AG6 hpl hn
        have hno : ¬ GOk l := fun hok => hpl (hok.1.there n hmem p hpm)
        simp -dsimp (disch := first | assumption | omega) only [↓AsR, AsO, AsT, AsU, eq_self, forall_const, Nat.reduceLT, Nat.reduceEqDiff, Nat.reduceSub, Nat.reduceMul, Nat.reduceMod, Nat.reduceDiv, Nat.reducePow, UInt8.reduceToNat, Int.reduceEq, Int.reduceLT, Int.reduceLE, ↓reduceIte, Nat.reduceAdd, Int.reduceToNat, reduceCtorEq, Nat.reduceLeDiff, ↓Atn, hg2, As9, hlook, Option.isSome_some, Option.isSome_none]
        exact ⟨fun hok => absurd hok hno, by simp⟩
      ·have hk2 : k = n.ps.length := by omega
       rw [hk2] at hf2 hv2
       rw [List.take_length] at hv2
       simp -dsimp (disch := first | assumption | omega) only [↓AsR, AsO, AsT, AsU, eq_self, forall_const, Nat.reduceLT, Nat.reduceEqDiff, Nat.reduceSub, Nat.reduceMul, Nat.reduceMod, Nat.reduceDiv, Nat.reducePow, UInt8.reduceToNat, Int.reduceEq, Int.reduceLT, Int.reduceLE, ↓reduceIte, Nat.reduceAdd, Int.reduceToNat, reduceCtorEq, Nat.reduceLeDiff, ↓Atn]
       refine Ayk (l.length - (i + 1)) 3 (by omega) (by simp) rfl (by simp [Axw, AAp, Avc, Au1, AuI _, hbm _, AtA, As9]) ⟨i + 1, es, f', rfl, by omega, ⟨hc, hbm⟩, fun y => ?_, fun y => by have := hb2 y; omega, fun m hm p hp' => ?_, rfl, rfl⟩
       ·rw [hf2 y, hsucc, List.take_length, hf y]; simp
       ·rw [hsucc, List.mem_append, List.mem_singleton] at hm
        rcases hm with hm | rfl
        ·exact hv m hm p hp'
        ·exact hv2 p hp'
    ·have hi2 : i = l.length := by omega
     rw [hi2, List.take_length] at hf hv
     clear hi2 hi hb
     have hV : AII l := ⟨hn, hv⟩
     replace hf : ∀ y, f y = kids l [] y := fun y => by rw [hf y, ASv]
     replace hc : AKW es (kids l []) := hc.congr fun y => (hf y).symm
     clear hf hv
     have hkb := fun d y => AVw hp d y
     simp -dsimp (disch := first | assumption | omega) only [↓AsR, AsO, AsT, AsU, eq_self, forall_const, Nat.reduceLT, Nat.reduceEqDiff, Nat.reduceSub, Nat.reduceMul, Nat.reduceMod, Nat.reduceDiv, Nat.reducePow, UInt8.reduceToNat, Int.reduceEq, Int.reduceLT, Int.reduceLE, ↓reduceIte, Nat.reduceAdd, Int.reduceToNat, reduceCtorEq, Nat.reduceLeDiff, ↓Atn]
     -- those that are free at first
     refine At5 (fun q e H => ∃ (i v : Nat) (fr : List (List UInt8)), q = l.length - i ∧ i ≤ l.length ∧ fr = (As8 (l.take i)).filter (fun y => decide (kids l [] y = 0)) ∧ fr.length ≤ i ∧
      e = [(0, .sl 22 (l.map ndT)), (4, .op 1 0 []), (7, .mp 2 0), (14, .os 20 3 v [] 0 fr.length fr.length), (88, .sl 22 (l.map ndT)), (89, i64 (l.length : Int)), (90, i64 (i : Int))] ∧ H = [.mpo (.arr 20) (Att l), AEu, .mpo (.arr 20) es, .obj v (.arr fr.length 20 (fr.map idT))]) l.length ?_ ?_
     ·exact ⟨0, 0, [], by simp, by simp, by simp [As8], by simp, rfl, rfl⟩
     ·clear h i
      rintro q e H ⟨i, v, fr, rfl, hi, hfr, hfl, rfl, rfl⟩
      by_cases h : i < l.length
      ·have hg : l[i]? = some l[i] := List.getElem?_eq_getElem h
       have hsucc := List.take_succ_eq_append_getElem h
       generalize l[i] = n at *
       have hcp := hc n.id
       have hkn := hkb [] n.id
       have hfs : (As8 (l.take (i + 1))).filter (fun y => decide (kids l [] y = 0)) = fr ++ (if kids l [] n.id = 0 then [n.id] else []) := by
        rw [hsucc, hfr]
        simp only [As8, List.map_append, List.filter_append, List.map_cons, List.map_nil]
        congr 1
        by_cases h0 : kids l [] n.id = 0 <;> simp [h0]
       by_cases h0 : kids l [] n.id = 0
       ·rw [if_pos h0] at hfs
        rw [h0] at hcp
        have htk : (fr.map idT).take fr.length = fr.map idT := AuG rfl
        simp -dsimp (disch := first | assumption | omega) only [↓AsR, AsO, AsT, AsU, eq_self, forall_const, Nat.reduceLT, Nat.reduceEqDiff, Nat.reduceSub, Nat.reduceMul, Nat.reduceMod, Nat.reduceDiv, Nat.reducePow, UInt8.reduceToNat, Int.reduceEq, Int.reduceLT, Int.reduceLE, ↓reduceIte, Nat.reduceAdd, Int.reduceToNat, reduceCtorEq, Nat.reduceLeDiff, ↓Atn, hg, AtA, hcp, AxS, Aw3, htk, AG2]
        refine Ayk (l.length - (i + 1)) 4 (by omega) (by simp) rfl (by simp [Axw, AAp, Avc, Au1, AuI _, hbm _, AtA, As9]) ⟨i + 1, v + 1, fr ++ [n.id], rfl, by omega, hfs.symm, by simp; omega, by simp [forget, get], by simp⟩
       ·rw [if_neg h0, List.append_nil] at hfs
        simp -dsimp (disch := first | assumption | omega) only [↓AsR, AsO, AsT, AsU, eq_self, forall_const, Nat.reduceLT, Nat.reduceEqDiff, Nat.reduceSub, Nat.reduceMul, Nat.reduceMod, Nat.reduceDiv, Nat.reducePow, UInt8.reduceToNat, Int.reduceEq, Int.reduceLT, Int.reduceLE, ↓reduceIte, Nat.reduceAdd, Int.reduceToNat, reduceCtorEq, Nat.reduceLeDiff, ↓Atn, hg, AtA, hcp]
        refine Ayk (l.length - (i + 1)) 4 (by omega) (by simp) rfl (by simp [Axw, AAp, Avc, Au1, AuI _, hbm _, AtA, As9]) ⟨i + 1, v, fr, rfl, by omega, hfs.symm, by omega, rfl, rfl⟩
      ·have hi2 : i = l.length := by omega
       rw [hi2, List.take_length] at hfr
       have hK : AMb l [] fr (kids l []) := ⟨.nil, by rw [hfr]; exact hn.filter _, fun y => by rw [hfr]; simp [List.mem_filter], by simp⟩
       clear hi2 hfr hfl hi
       simp -dsimp (disch := first | assumption | omega) only [↓AsR, AsO, AsT, AsU, eq_self, forall_const, Nat.reduceLT, Nat.reduceEqDiff, Nat.reduceSub, Nat.reduceMul, Nat.reduceMod, Nat.reduceDiv, Nat.reducePow, UInt8.reduceToNat, Int.reduceEq, Int.reduceLT, Int.reduceLE, ↓reduceIte, Nat.reduceAdd, Int.reduceToNat, reduceCtorEq, Nat.reduceLeDiff, ↓Atn]
       -- coming free
       refine At5 (fun q e H => ∃ (d fr : List (List UInt8)) (es : List (List UInt8 × TV)) (off n v cp : Nat) (cs : List TV), q = l.length - d.length ∧ AMb l d fr (kids l d) ∧ (AKW es (kids l d) ∧ AyK es) ∧ (cs.drop off).take fr.length = fr.map idT ∧ off + fr.length ≤ cs.length ∧ fr.length ≤ cp ∧
        e = [(0, .sl 22 (l.map ndT)), (4, .op 1 0 []), (7, .mp 2 0), (14, .os 20 3 v [] off fr.length cp), (17, i64 (d.length : Int))] ∧ H = [.mpo (.arr 20) (Att l), AEu, .mpo (.arr 20) es, .obj v (.arr n 20 cs)]) l.length ?_ ?_
       ·exact ⟨[], fr, es, 0, fr.length, v, fr.length, fr.map idT, by simp, hK, ⟨hc, hbm⟩, by rw [List.drop_zero]; exact AuG rfl, by simp, by simp, rfl, rfl⟩
       ·clear hK hc h hbm
        rintro q e H ⟨d, fr, es, off, N, v, cp, cs, rfl, hK, ⟨hc, hbm⟩, hcs, hol, hcl, rfl, rfl⟩
        have hdl := hK.ord.le
        cases fr with
        | nil =>
         clear hcs hol hcl
         have hfin := hK.none hV
         by_cases hd : d.length = l.length
         ·have hok : GOk l := ⟨hV, hfin.1 hd⟩
          simp -dsimp (disch := first | assumption | omega) only [↓AsR, AsO, AsT, AsU, eq_self, forall_const, Nat.reduceLT, Nat.reduceEqDiff, Nat.reduceSub, Nat.reduceMul, Nat.reduceMod, Nat.reduceDiv, Nat.reducePow, UInt8.reduceToNat, Int.reduceEq, Int.reduceLT, Int.reduceLE, ↓reduceIte, Nat.reduceAdd, Int.reduceToNat, reduceCtorEq, Nat.reduceLeDiff, ↓Atn]
          exact ⟨fun _ => ⟨es, _, rfl⟩, fun hno => absurd hok hno⟩
         ·have hno : ¬ GOk l := fun hok => hd (hfin.2 hok.2)
          simp -dsimp (disch := first | assumption | omega) only [↓AsR, AsO, AsT, AsU, eq_self, forall_const, Nat.reduceLT, Nat.reduceEqDiff, Nat.reduceSub, Nat.reduceMul, Nat.reduceMod, Nat.reduceDiv, Nat.reducePow, UInt8.reduceToNat, Int.reduceEq, Int.reduceLT, Int.reduceLE, ↓reduceIte, Nat.reduceAdd, Int.reduceToNat, reduceCtorEq, Nat.reduceLeDiff, ↓Atn]
          exact ⟨fun hok => absurd hok hno, by simp⟩
        | cons x fr =>
         obtain ⟨hx1, hx2, hx3⟩ := (hK.free x).1 (by simp)
         obtain ⟨n, hnl, rfl⟩ := List.mem_map.1 hx1
         have hlook := AyA hn hnl
         obtain ⟨hc0, hcs⟩ := ARx hcs
         rw [As9] at hc0
         rw [List.length_cons] at hol hcl
         have hT := hK.take hV hnl
         have hd1 : d.length + 1 ≤ l.length := by have := hT.ord.le; simpa using this
         have hpi := hp n hnl
         replace hc : AKW es (fun y => kids l (d ++ [n.id]) y + n.ps.count y) := hc.congr fun y => (AIP hn hnl hx2 y).symm
         simp -dsimp (disch := first | assumption | omega) only [↓AsR, AsO, AsT, AsU, eq_self, forall_const, Nat.reduceLT, Nat.reduceEqDiff, Nat.reduceSub, Nat.reduceMul, Nat.reduceMod, Nat.reduceDiv, Nat.reducePow, UInt8.reduceToNat, Int.reduceEq, Int.reduceLT, Int.reduceLE, ↓reduceIte, Nat.reduceAdd, Int.reduceToNat, reduceCtorEq, Nat.reduceLeDiff, ↓Atn, hc0, hlook, AtA, Nat.add_zero]
         refine At5 (fun q e H => ∃ (k : Nat) (fr : List (List UInt8)) (es : List (List UInt8 × TV)) (f : List UInt8 → Nat) (off N v cp : Nat) (cs : List TV), q = n.ps.length - k ∧ k ≤ n.ps.length ∧ AMb l (d ++ [n.id]) fr f ∧ (∀ y, f y = kids l (d ++ [n.id]) y + (n.ps.drop k).count y) ∧ (AKW es f ∧ AyK es) ∧
          (cs.drop off).take fr.length = fr.map idT ∧ off + fr.length ≤ cs.length ∧ fr.length ≤ cp ∧
          e = [(0, .sl 22 (l.map ndT)), (4, .op 1 0 []), (7, .mp 2 0), (14, .os 20 3 v [] off fr.length cp), (17, i64 (d.length : Int)), (121, .sl 20 (n.ps.map idT)), (122, i64 (n.ps.length : Int)), (123, i64 (k : Int))] ∧
          H = [.mpo (.arr 20) (Att l), AEu, .mpo (.arr 20) es, .obj v (.arr N 20 cs), .obj 0 (ndT n)]) n.ps.length ?_ ?_
         ·exact ⟨0, fr, es, _, off + 1, N, v, cp - 1, cs, by simp, by simp, hT, by simp, ⟨hc, hbm⟩, hcs, by omega, by omega, rfl, by rw [AtA]⟩
         ·clear hc hbm hcs hol hcl hc0 hT hK
          rintro q e H ⟨k, fr, es, f, off, N, v, cp, cs, rfl, hk, hK, hf, ⟨hc, hbm⟩, hcs, hol, hcl, rfl, rfl⟩
          by_cases h2 : k < n.ps.length
          ·have hg2 : n.ps[k]? = some n.ps[k] := List.getElem?_eq_getElem h2
           have hdrop := List.drop_eq_getElem_cons h2
           have hpm := List.getElem_mem h2
           generalize n.ps[k] = p at *
           have hcp := hc p
           have hkp := hkb (d ++ [n.id]) p
           have hcnt : (n.ps.drop k).count p ≤ n.ps.length := Nat.le_trans List.count_le_length (by simp)
           have hfp := hf p
           have hf1 : 1 ≤ f p := by rw [hfp, hdrop]; simp; omega
           have hfr1 : fr.length ≤ l.length := by
            have := Axm hK.nodup (e := As8 l) fun y hy => ((hK.free y).1 hy).1
            simpa [As8] using this
           have hD := hK.drop (hV.there n hnl p hpm) (by omega)
           have hc' := hc.put p (f p - 1)
           have hf' : ∀ y, (if p = y then f p - 1 else f y) = kids l (d ++ [n.id]) y + (n.ps.drop (k + 1)).count y := by
            intro y
            have h9 := hf y
            rw [hdrop, List.count_cons] at h9
            by_cases e : p = y
            ·subst e; simp at h9 ⊢; omega
            ·simp [e] at h9 ⊢; omega
           by_cases h0 : f p = 1
           ·rw [if_pos h0] at hD
            rw [h0] at hcp hc'
            have hcp2 : (Aw0 p (AwB p (i64 (((1 : Nat) - 1 : Nat) : Int)) es)).getD (i64 ((0 : Nat) : Int)) = i64 ((0 : Nat) : Int) := by rw [ASO, if_pos rfl]; rfl
            have hoff : (cs.drop off).take fr.length = fr.map idT := hcs
            simp -dsimp (disch := first | assumption | omega) only [↓AsR, AsO, AsT, AsU, eq_self, forall_const, Nat.reduceLT, Nat.reduceEqDiff, Nat.reduceSub, Nat.reduceMul, Nat.reduceMod, Nat.reduceDiv, Nat.reducePow, UInt8.reduceToNat, Int.reduceEq, Int.reduceLT, Int.reduceLE, ↓reduceIte, Nat.reduceAdd, Int.reduceToNat, reduceCtorEq, Nat.reduceLeDiff, ↓Atn, hg2, As9, hcp, hcp2, AxS, Aw3, hoff, AG2, AJe, AGF, pr1, pr2]
            have hc0 : AKW (AwB p (i64 ((0 : Nat) : Int)) es) (fun y => if p = y then f p - 1 else f y) := by rw [h0]; exact hc'
            refine Ayk (n.ps.length - (k + 1)) 5 (by omega) (by simp) rfl (by simp [Axw, AAp, Avc, Au1, AuI _, AtA, As9, (hbm.put (x := .val (.int .i64 0)) fun g => rfl) 5]) ⟨k + 1, fr ++ [p], AwB p (i64 ((0 : Nat) : Int)) es, _, 0, fr.length + 1, v + 1, fr.length + 1, (fr ++ [p]).map idT, rfl, by omega, hD, hf', ⟨hc0, hbm.put fun g => rfl⟩, ?_, ?_, ?_, ?_, rfl⟩
            ·rw [List.drop_zero]; exact AuG rfl
            ·simp
            ·simp
            ·simp [forget, get]
           ·rw [if_neg h0] at hD
            have hcp2 : (Aw0 p (AwB p (i64 ((f p - 1 : Nat) : Int)) es)).getD (i64 ((0 : Nat) : Int)) = i64 ((f p - 1 : Nat) : Int) := by rw [ASO, if_pos rfl]; rfl
            simp -dsimp (disch := first | assumption | omega) only [↓AsR, AsO, AsT, AsU, eq_self, forall_const, Nat.reduceLT, Nat.reduceEqDiff, Nat.reduceSub, Nat.reduceMul, Nat.reduceMod, Nat.reduceDiv, Nat.reducePow, UInt8.reduceToNat, Int.reduceEq, Int.reduceLT, Int.reduceLE, ↓reduceIte, Nat.reduceAdd, Int.reduceToNat, reduceCtorEq, Nat.reduceLeDiff, ↓Atn, hg2, As9, hcp, hcp2, AJe, AGF, pr1, pr2]
            refine Ayk (n.ps.length - (k + 1)) 5 (by omega) (by simp) rfl (by simp [Axw, AAp, Avc, Au1, AuI _, AtA, As9, hol, (hbm.put (x := .val (.int .i64 ((f p - 1 : Nat) : Int))) fun g => rfl) 5]) ⟨k + 1, fr, _, _, off, N, v, cp, cs, rfl, by omega, hD, hf', ⟨hc', hbm.put fun g => rfl⟩, hcs, hol, hcl, rfl, rfl⟩
          ·have hk2 : k = n.ps.length := by omega
           rw [hk2, List.drop_length] at hf
           have hfe : ∀ y, kids l (d ++ [n.id]) y = f y := fun y => by rw [hf y]; simp
           simp -dsimp (disch := first | assumption | omega) only [↓AsR, AsO, AsT, AsU, eq_self, forall_const, Nat.reduceLT, Nat.reduceEqDiff, Nat.reduceSub, Nat.reduceMul, Nat.reduceMod, Nat.reduceDiv, Nat.reducePow, UInt8.reduceToNat, Int.reduceEq, Int.reduceLT, Int.reduceLE, ↓reduceIte, Nat.reduceAdd, Int.reduceToNat, reduceCtorEq, Nat.reduceLeDiff, ↓Atn]
           refine Ayk (l.length - (d.length + 1)) 4 (by omega) (by simp) rfl (by simp [Axw, AAp, Avc, Au1, AuI _, hbm _, AtA, As9]) ⟨d ++ [n.id], fr, es, off, N, v, cp, cs, by simp, hK.congr hfe, ⟨hc.congr hfe, hbm⟩, hcs, hol, hcl, by simp [forget, get], rfl⟩
end Go.Proofs.YtingoaihnlhiaaaDoor


namespace Go.Proofs.YtingoaihnlhiaaaDoor
variable [AtT]
set_option linter.unusedSectionVars false
set_option linter.unusedVariables false
set_option linter.defProp false
set_option maxRecDepth 100000

def Ax3 : AsQ := .seq (.seq (.ops [mv_ 18 9,
  po_ 19 (.eqN 1 (.t 18) (.c .nilIface) true)] [4, 5, 8, 9, 19])
 (.cond (.t 19)
 (.seq (.ops [mv_ 20 9,
   po_ 6 (.mov (.c (.bool false))),
   mv_ 7 20] [6, 7])
  (.ret))
 (.skip)))
 (.seq (.sdraw 3 [mv_ 21 8,
  po_ 22 (.load true 20 (.t 4)),
  po_ 25 (.load true 20 (.t 5)),
  ⟨some 23, .s (.bslice 20 1 (.arr 20 1 [.val (.int .u8 ((0 : Nat) : Int)), .val (.int .u8 ((0 : Nat) : Int)), .val (.int .u8 ((0 : Nat) : Int)), .val (.int .u8 ((0 : Nat) : Int)), .val (.int .u8 ((0 : Nat) : Int)), .val (.int .u8 ((0 : Nat) : Int)), .val (.int .u8 ((0 : Nat) : Int)), .val (.int .u8 ((0 : Nat) : Int)), .val (.int .u8 ((0 : Nat) : Int)), .val (.int .u8 ((0 : Nat) : Int)), .val (.int .u8 ((0 : Nat) : Int)), .val (.int .u8 ((0 : Nat) : Int)), .val (.int .u8 ((0 : Nat) : Int)), .val (.int .u8 ((0 : Nat) : Int)), .val (.int .u8 ((0 : Nat) : Int)), .val (.int .u8 ((0 : Nat) : Int)), .val (.int .u8 ((0 : Nat) : Int)), .val (.int .u8 ((0 : Nat) : Int)), .val (.int .u8 ((0 : Nat) : Int)), .val (.int .u8 ((0 : Nat) : Int))]) [⟨0, .t 22⟩]), none⟩,
  so_ 24 (.call 21 [.t 21, .t 23]),
  so_ 26 (.call 25 [.t 24, .t 25]),
  mv_ 6 26,
  po_ 7 (.mov (.c .nilIface))] [6, 7])
 (.ret))
def Ax0 : AsQ := .seq (.opsZ [mv_ 11 0,
  po_ 12 (.load true 20 (.t 4)),
  po_ 13 (.load true 20 (.t 5)),
  ⟨some 14, .s (.bslice 20 2 (.arr 20 1 [.val (.int .u8 ((0 : Nat) : Int)), .val (.int .u8 ((0 : Nat) : Int)), .val (.int .u8 ((0 : Nat) : Int)), .val (.int .u8 ((0 : Nat) : Int)), .val (.int .u8 ((0 : Nat) : Int)), .val (.int .u8 ((0 : Nat) : Int)), .val (.int .u8 ((0 : Nat) : Int)), .val (.int .u8 ((0 : Nat) : Int)), .val (.int .u8 ((0 : Nat) : Int)), .val (.int .u8 ((0 : Nat) : Int)), .val (.int .u8 ((0 : Nat) : Int)), .val (.int .u8 ((0 : Nat) : Int)), .val (.int .u8 ((0 : Nat) : Int)), .val (.int .u8 ((0 : Nat) : Int)), .val (.int .u8 ((0 : Nat) : Int)), .val (.int .u8 ((0 : Nat) : Int)), .val (.int .u8 ((0 : Nat) : Int)), .val (.int .u8 ((0 : Nat) : Int)), .val (.int .u8 ((0 : Nat) : Int)), .val (.int .u8 ((0 : Nat) : Int))]) [⟨0, .t 12⟩, ⟨1, .t 13⟩]), none⟩] [14] [so_ 15 (.call 19 [.t 11, .t 14]),
  mv_ 10 15,
  po_ 16 (.ext 0 (.t 10)),
  po_ 17 (.ext 1 (.t 10)),
  mv_ 8 16,
  mv_ 9 17] [4, 5, 8, 9])
 Ax3
def ABP : AsQ := .seq (.ops [so_ 4 (.box (.t 1)),
  so_ 5 (.box (.t 2)),
  po_ 6 (.mov (.c (.bool false))),
  po_ 7 (.mov (.c .nilIface))] [0, 4, 5])
 Ax0
def ABD : List VR := [.tmp 6, .tmp 7]
theorem AHr : Tryd.f13.body.bind (trC Tryd.prog Tryd.f13.ntmps) = some (er ABP) := by kernel_rfl
theorem AHl : trR Tryd.prog Tryd.f13.results.toList = some ABD := by kernel_rfl
def AB4 := AsN Ax3.eq_1
def AB5 := AsN Ax0.eq_1
def AFn := AsN ABP.eq_1
theorem AFE {K : TV → Prop} {e : Env} {H : List Ob} : res ABD e H K = res [.tmp 6, .tmp 7] e H K := AsM rfl
def Au4 := (And.intro (And.intro @AB4 @AB5) (And.intro @AFn @AFE))
def AGv := Awq 27 Tryd.func13 AHr AHl rfl

def AzS : AsQ := .seq (.ops [so_ 35 (.nxtM (.t 34)),
  po_ 36 (.ext 0 (.t 35))] [8, 11, 12, 34, 36])
 (.seq (.cond (.t 36)
 (.skip)
 (.exit 0))
 (.block 1 (.seq (.ops [po_ 37 (.gen .entM [.t 34]),
  po_ 38 (.ext 0 (.t 37)),
  so_ 13 (.alloc (.arr 20 1 [.val (.int .u8 ((0 : Nat) : Int)), .val (.int .u8 ((0 : Nat) : Int)), .val (.int .u8 ((0 : Nat) : Int)), .val (.int .u8 ((0 : Nat) : Int)), .val (.int .u8 ((0 : Nat) : Int)), .val (.int .u8 ((0 : Nat) : Int)), .val (.int .u8 ((0 : Nat) : Int)), .val (.int .u8 ((0 : Nat) : Int)), .val (.int .u8 ((0 : Nat) : Int)), .val (.int .u8 ((0 : Nat) : Int)), .val (.int .u8 ((0 : Nat) : Int)), .val (.int .u8 ((0 : Nat) : Int)), .val (.int .u8 ((0 : Nat) : Int)), .val (.int .u8 ((0 : Nat) : Int)), .val (.int .u8 ((0 : Nat) : Int)), .val (.int .u8 ((0 : Nat) : Int)), .val (.int .u8 ((0 : Nat) : Int)), .val (.int .u8 ((0 : Nat) : Int)), .val (.int .u8 ((0 : Nat) : Int)), .val (.int .u8 ((0 : Nat) : Int))])),
  ⟨none, .s (.store 20 (.t 13) (.t 38)), none⟩] [8, 11, 12, 13, 34])
 (.seq (.ops [mv_ 39 11,
  po_ 40 (.load true 20 (.t 13)),
  so_ 41 (.call 25 [.t 39, .t 40])] [8, 11, 12, 13, 34, 41])
 (.cond (.t 41)
 (.ops [mv_ 42 12,
   po_ 43 (.load true 20 (.t 13)),
   ⟨some 44, .s (.bslice 20 1 (.arr 20 1 [.val (.int .u8 ((0 : Nat) : Int)), .val (.int .u8 ((0 : Nat) : Int)), .val (.int .u8 ((0 : Nat) : Int)), .val (.int .u8 ((0 : Nat) : Int)), .val (.int .u8 ((0 : Nat) : Int)), .val (.int .u8 ((0 : Nat) : Int)), .val (.int .u8 ((0 : Nat) : Int)), .val (.int .u8 ((0 : Nat) : Int)), .val (.int .u8 ((0 : Nat) : Int)), .val (.int .u8 ((0 : Nat) : Int)), .val (.int .u8 ((0 : Nat) : Int)), .val (.int .u8 ((0 : Nat) : Int)), .val (.int .u8 ((0 : Nat) : Int)), .val (.int .u8 ((0 : Nat) : Int)), .val (.int .u8 ((0 : Nat) : Int)), .val (.int .u8 ((0 : Nat) : Int)), .val (.int .u8 ((0 : Nat) : Int)), .val (.int .u8 ((0 : Nat) : Int)), .val (.int .u8 ((0 : Nat) : Int)), .val (.int .u8 ((0 : Nat) : Int))]) [⟨0, .t 43⟩]), none⟩,
   so_ 45 (.app 20 20 40 (.t 42) (.t 44)),
   mv_ 12 45] [8, 11, 12, 34])
 (.skip))))))
def Azt : AsQ := .block 0 (.own 12 20 (.loop [8, 11, 12, 34] AzS))
def AAi : AsQ := .seq (.ops [mv_ 46 8,
  mv_ 47 12,
  so_ 48 (.call 33 [.t 46, .t 47]),
  mv_ 6 48,
  po_ 7 (.mov (.c .nilIface))] [6, 7])
 (.ret)
def AzR : AsQ := .seq (.seq (.ops [mv_ 33 10,
  so_ 34 (.rngM (.t 33))] [8, 11, 12, 34])
 Azt)
 AAi
def Axk : AsQ := .seq (.ops [po_ 12 (.mov (.c (.slice none 0 0)))] [8, 10, 11, 12])
 AzR
def AzY : AsQ := .seq (.sdraw 6 [mv_ 25 8,
  po_ 26 (.load true 20 (.t 4)),
  ⟨some 27, .p (.bsl 20 1 (.arr 20 1 [.val (.int .u8 ((0 : Nat) : Int)), .val (.int .u8 ((0 : Nat) : Int)), .val (.int .u8 ((0 : Nat) : Int)), .val (.int .u8 ((0 : Nat) : Int)), .val (.int .u8 ((0 : Nat) : Int)), .val (.int .u8 ((0 : Nat) : Int)), .val (.int .u8 ((0 : Nat) : Int)), .val (.int .u8 ((0 : Nat) : Int)), .val (.int .u8 ((0 : Nat) : Int)), .val (.int .u8 ((0 : Nat) : Int)), .val (.int .u8 ((0 : Nat) : Int)), .val (.int .u8 ((0 : Nat) : Int)), .val (.int .u8 ((0 : Nat) : Int)), .val (.int .u8 ((0 : Nat) : Int)), .val (.int .u8 ((0 : Nat) : Int)), .val (.int .u8 ((0 : Nat) : Int)), .val (.int .u8 ((0 : Nat) : Int)), .val (.int .u8 ((0 : Nat) : Int)), .val (.int .u8 ((0 : Nat) : Int)), .val (.int .u8 ((0 : Nat) : Int))]) [⟨0, .t 26⟩]), none⟩,
  mv_ 29 8,
  po_ 30 (.load true 20 (.t 5)),
  ⟨some 31, .p (.bsl 20 1 (.arr 20 1 [.val (.int .u8 ((0 : Nat) : Int)), .val (.int .u8 ((0 : Nat) : Int)), .val (.int .u8 ((0 : Nat) : Int)), .val (.int .u8 ((0 : Nat) : Int)), .val (.int .u8 ((0 : Nat) : Int)), .val (.int .u8 ((0 : Nat) : Int)), .val (.int .u8 ((0 : Nat) : Int)), .val (.int .u8 ((0 : Nat) : Int)), .val (.int .u8 ((0 : Nat) : Int)), .val (.int .u8 ((0 : Nat) : Int)), .val (.int .u8 ((0 : Nat) : Int)), .val (.int .u8 ((0 : Nat) : Int)), .val (.int .u8 ((0 : Nat) : Int)), .val (.int .u8 ((0 : Nat) : Int)), .val (.int .u8 ((0 : Nat) : Int)), .val (.int .u8 ((0 : Nat) : Int)), .val (.int .u8 ((0 : Nat) : Int)), .val (.int .u8 ((0 : Nat) : Int)), .val (.int .u8 ((0 : Nat) : Int)), .val (.int .u8 ((0 : Nat) : Int))]) [⟨0, .t 30⟩]), none⟩,
  so_ 28 (.call 21 [.t 25, .t 27]),
  so_ 32 (.call 21 [.t 29, .t 31]),
  mv_ 10 28,
  mv_ 11 32] [8, 10, 11])
 Axk
def AAc : AsQ := .seq (.seq (.ops [mv_ 22 9,
  po_ 23 (.eqN 1 (.t 22) (.c .nilIface) true)] [4, 5, 8, 9, 23])
 (.cond (.t 23)
 (.seq (.ops [mv_ 24 9,
   po_ 6 (.mov (.c (.slice none 0 0))),
   mv_ 7 24] [6, 7])
  (.ret))
 (.skip)))
 AzY
def Azw : AsQ := .seq (.opsZ [mv_ 15 0,
  po_ 16 (.load true 20 (.t 4)),
  po_ 17 (.load true 20 (.t 5)),
  ⟨some 18, .s (.bslice 20 2 (.arr 20 1 [.val (.int .u8 ((0 : Nat) : Int)), .val (.int .u8 ((0 : Nat) : Int)), .val (.int .u8 ((0 : Nat) : Int)), .val (.int .u8 ((0 : Nat) : Int)), .val (.int .u8 ((0 : Nat) : Int)), .val (.int .u8 ((0 : Nat) : Int)), .val (.int .u8 ((0 : Nat) : Int)), .val (.int .u8 ((0 : Nat) : Int)), .val (.int .u8 ((0 : Nat) : Int)), .val (.int .u8 ((0 : Nat) : Int)), .val (.int .u8 ((0 : Nat) : Int)), .val (.int .u8 ((0 : Nat) : Int)), .val (.int .u8 ((0 : Nat) : Int)), .val (.int .u8 ((0 : Nat) : Int)), .val (.int .u8 ((0 : Nat) : Int)), .val (.int .u8 ((0 : Nat) : Int)), .val (.int .u8 ((0 : Nat) : Int)), .val (.int .u8 ((0 : Nat) : Int)), .val (.int .u8 ((0 : Nat) : Int)), .val (.int .u8 ((0 : Nat) : Int))]) [⟨0, .t 16⟩, ⟨1, .t 17⟩]), none⟩] [18] [so_ 19 (.call 19 [.t 15, .t 18]),
  mv_ 14 19,
  po_ 20 (.ext 0 (.t 14)),
  po_ 21 (.ext 1 (.t 14)),
  mv_ 8 20,
  mv_ 9 21] [4, 5, 8, 9])
 AAc
def AEc : AsQ := .seq (.ops [so_ 4 (.box (.t 1)),
  so_ 5 (.box (.t 2)),
  po_ 6 (.mov (.c (.slice none 0 0))),
  po_ 7 (.mov (.c .nilIface))] [0, 4, 5])
 Azw
def Ay9 : List VR := [.tmp 6, .tmp 7]
theorem AJj : Tryd.f15.body.bind (trC Tryd.prog Tryd.f15.ntmps) = some (er AEc) := by kernel_rfl
theorem AJi : trR Tryd.prog Tryd.f15.results.toList = some Ay9 := by kernel_rfl
def AC3 := AsN AzS.eq_1
def ADK := AsN Azt.eq_1
def ADx := AsN AAi.eq_1
def AC7 := AsN AzR.eq_1
def AEa := AsN Axk.eq_1
def Ax8 := AsN AzY.eq_1
def Ax7 := AsN AAc.eq_1
def Aww := AsN Azw.eq_1
def AxU := AsN AEc.eq_1
theorem AAR {K : TV → Prop} {e : Env} {H : List Ob} : res Ay9 e H K = res [.tmp 6, .tmp 7] e H K := AsM rfl
def At8 := (And.intro (And.intro (And.intro (And.intro @AC3 @ADK) (And.intro @ADx @AC7)) (And.intro (And.intro @AEa @Ax8) (And.intro @Ax7 @Aww))) (And.intro @AxU @AAR))
def AH6 := Awq 49 Tryd.func15 AJj AJi rfl

def Ayw : AsQ := .seq (.ops [mv_ 9 0,
  mv_ 10 1,
  so_ 11 (.call 19 [.t 9, .t 10]),
  mv_ 8 11,
  po_ 12 (.ext 0 (.t 8)),
  po_ 13 (.ext 1 (.t 8)),
  mv_ 6 12,
  mv_ 7 13] [1, 6, 7])
 (.seq (.seq (.ops [mv_ 14 7,
  po_ 15 (.eqN 1 (.t 14) (.c .nilIface) true)] [1, 6, 7, 15])
 (.cond (.t 15)
 (.seq (.ops [mv_ 16 7,
   po_ 4 (.mov (.c (.slice none 0 0))),
   mv_ 5 16] [4, 5])
  (.ret))
 (.skip)))
 (.seq (.ops [mv_ 17 6,
  mv_ 18 1,
  so_ 19 (.call 33 [.t 17, .t 18]),
  mv_ 4 19,
  po_ 5 (.mov (.c .nilIface))] [4, 5])
 (.ret)))
def ACk : AsQ := .seq (.ops [po_ 4 (.mov (.c (.slice none 0 0))),
  po_ 5 (.mov (.c .nilIface))] [0, 1])
 Ayw
def ACm : List VR := [.tmp 4, .tmp 5]
theorem AH2 : Tryd.f17.body.bind (trC Tryd.prog Tryd.f17.ntmps) = some (er ACk) := by kernel_rfl
theorem AHJ : trR Tryd.prog Tryd.f17.results.toList = some ACm := by kernel_rfl
def ACv := AsN Ayw.eq_1
def AGB := AsN ACk.eq_1
theorem AGm {K : TV → Prop} {e : Env} {H : List Ob} : res ACm e H K = res [.tmp 4, .tmp 5] e H K := AsM rfl
def AvH := (And.intro (And.intro @ACv @AGB) @AGm)
def AHf := Awq 20 Tryd.func17 AH2 AHJ rfl

def AEk : AsQ := .seq (.seq (.ops [mv_ 13 7,
  po_ 14 (.eqN 1 (.t 13) (.c .nilIface) false),
  mv_ 15 14,
  ⟨some 16, .p (.mov (.t 6)), some ⟨15, true⟩⟩,
  ⟨some 17, .p (.mov (.t 1)), some ⟨15, true⟩⟩,
  ⟨some 18, .s (.call 36 [.t 16, .t 17]), some ⟨15, true⟩⟩,
  ⟨some 19, .p (.un .not (.t 18)), some ⟨15, true⟩⟩,
  po_ 20 (.pick (.t 15) (.t 19) (.c (.bool false)))] [6, 7, 20])
 (.cond (.t 20)
 (.ops [po_ 21 (.iface 36 (ci_ 80)),
   mv_ 7 21] [6, 7])
 (.skip)))
 (.seq (.ops [mv_ 22 6,
  mv_ 23 7,
  mv_ 4 22,
  mv_ 5 23] [4, 5])
 (.ret))
def ADT : AsQ := .seq (.ops [mv_ 9 0,
  so_ 10 (.call 35 [.t 9]),
  mv_ 8 10,
  po_ 11 (.ext 0 (.t 8)),
  po_ 12 (.ext 1 (.t 8)),
  mv_ 6 11,
  mv_ 7 12] [1, 6, 7])
 AEk
def AIb : AsQ := .seq (.ops [po_ 4 (.mov (.c (.pointer none))),
  po_ 5 (.mov (.c .nilIface))] [0, 1])
 ADT
def AIG : List VR := [.tmp 4, .tmp 5]
theorem ANk : Tryd.f19.body.bind (trC Tryd.prog Tryd.f19.ntmps) = some (er AIb) := by kernel_rfl
theorem ANv : trR Tryd.prog Tryd.f19.results.toList = some AIG := by kernel_rfl
def AGO := AsN AEk.eq_1
def AG5 := AsN ADT.eq_1
def AKL := AsN AIb.eq_1
theorem AJR {K : TV → Prop} {e : Env} {H : List Ob} : res AIG e H K = res [.tmp 4, .tmp 5] e H K := AsM rfl
def Ays := (And.intro (And.intro @AGO @AG5) (And.intro @AKL @AJR))
def AK8 := Awq 24 Tryd.func19 ANk ANv rfl

def AwJ : AsQ := .seq (.ops [mv_ 29 5,
  po_ 30 (.load true 20 (.t 7)),
  po_ 31 (.build [] [] []),
  ⟨none, .s (.mupd (.arr 20) (.t 29) (.t 30) (.t 31)), none⟩] [0, 5, 6, 7])
 (.draw 5 [mv_ 32 6,
  mv_ 33 0,
  po_ 34 (.nilc (.t 33)),
  po_ 35 (.fieldA 0 0 (.t 34)),
  po_ 36 (.load false 1 (.t 35)),
  po_ 37 (.load true 20 (.t 7)),
  po_ 38 (.gen (.look (.arr 20) (.agg [.arr 20 1 [.val (.int .u8 ((0 : Nat) : Int)), .val (.int .u8 ((0 : Nat) : Int)), .val (.int .u8 ((0 : Nat) : Int)), .val (.int .u8 ((0 : Nat) : Int)), .val (.int .u8 ((0 : Nat) : Int)), .val (.int .u8 ((0 : Nat) : Int)), .val (.int .u8 ((0 : Nat) : Int)), .val (.int .u8 ((0 : Nat) : Int)), .val (.int .u8 ((0 : Nat) : Int)), .val (.int .u8 ((0 : Nat) : Int)), .val (.int .u8 ((0 : Nat) : Int)), .val (.int .u8 ((0 : Nat) : Int)), .val (.int .u8 ((0 : Nat) : Int)), .val (.int .u8 ((0 : Nat) : Int)), .val (.int .u8 ((0 : Nat) : Int)), .val (.int .u8 ((0 : Nat) : Int)), .val (.int .u8 ((0 : Nat) : Int)), .val (.int .u8 ((0 : Nat) : Int)), .val (.int .u8 ((0 : Nat) : Int)), .val (.int .u8 ((0 : Nat) : Int))], .val (.slice none 0 0), .val (.int .i64 ((0 : Nat) : Int))]) false) [.t 36, .t 37]),
  po_ 39 (.field false 1 1 20 (.t 38)),
  so_ 40 (.app 20 20 40 (.t 32) (.t 39)),
  mv_ 6 40] [0, 5, 6])
def AwN : AsQ := .cond (.t 28)
 AwJ
 (.skip)
def AwM : AsQ := .seq (.ops [mv_ 25 5,
  po_ 26 (.load true 20 (.t 7)),
  so_ 27 (.call 25 [.t 25, .t 26]),
  po_ 28 (.un .not (.t 27))] [0, 5, 6, 7, 28])
 AwN
def AwI : AsQ := .seq (.ops [mv_ 20 6,
  mv_ 21 6,
  po_ 22 (.lenV (.t 21)),
  po_ 23 (.bin 3 .sub (.t 22) (ci_ 1)),
  po_ 24 (.slV 20 (.t 20) none (some (.t 23))),
  mv_ 6 24] [0, 5, 6, 7])
 AwM
def AwK : AsQ := .block 1 (.seq (.ops [mv_ 14 6,
  mv_ 15 6,
  po_ 16 (.lenV (.t 15)),
  po_ 17 (.bin 3 .sub (.t 16) (ci_ 1)),
  po_ 18 (.idxA 20 (.t 14) (.t 17)),
  po_ 19 (.load true 20 (.t 18)),
  so_ 7 (.alloc (.arr 20 1 [.val (.int .u8 ((0 : Nat) : Int)), .val (.int .u8 ((0 : Nat) : Int)), .val (.int .u8 ((0 : Nat) : Int)), .val (.int .u8 ((0 : Nat) : Int)), .val (.int .u8 ((0 : Nat) : Int)), .val (.int .u8 ((0 : Nat) : Int)), .val (.int .u8 ((0 : Nat) : Int)), .val (.int .u8 ((0 : Nat) : Int)), .val (.int .u8 ((0 : Nat) : Int)), .val (.int .u8 ((0 : Nat) : Int)), .val (.int .u8 ((0 : Nat) : Int)), .val (.int .u8 ((0 : Nat) : Int)), .val (.int .u8 ((0 : Nat) : Int)), .val (.int .u8 ((0 : Nat) : Int)), .val (.int .u8 ((0 : Nat) : Int)), .val (.int .u8 ((0 : Nat) : Int)), .val (.int .u8 ((0 : Nat) : Int)), .val (.int .u8 ((0 : Nat) : Int)), .val (.int .u8 ((0 : Nat) : Int)), .val (.int .u8 ((0 : Nat) : Int))])),
  ⟨none, .s (.store 20 (.t 7) (.t 19)), none⟩] [0, 5, 6, 7])
 AwI)
def Avf : AsQ := .seq (.seq (.ops [mv_ 11 6,
  po_ 12 (.lenV (.t 11)),
  po_ 13 (.bin 3 .gtr (.t 12) (ci_ 0))] [0, 5, 6, 13])
 (.cond (.t 13)
 (.skip)
 (.exit 0)))
 AwK
def Ave : AsQ := .seq (.ops [mv_ 41 5,
  mv_ 4 41] [4])
 (.ret)
def AwL : AsQ := .seq (.block 0 (.own 6 20 (.loop [0, 5, 6] Avf)))
 Ave
def AwH : AsQ := .seq (.ops [mv_ 9 1,
  so_ 10 (.call 38 [.t 9]),
  mv_ 6 10] [0, 5, 6])
 AwL
def Awm : AsQ := .seq (.ops [so_ 8 (.mkm (.arr 20) none),
  mv_ 5 8] [0, 1, 5])
 AwH
def AxT : AsQ := .seq (.ops [po_ 4 (.mov (.c (.map none)))] [0, 1])
 Awm
def AvT : List VR := [.tmp 4]
theorem ACY : Tryd.f21.body.bind (trC Tryd.prog Tryd.f21.ntmps) = some (er AxT) := by kernel_rfl
theorem ACW : trR Tryd.prog Tryd.f21.results.toList = some AvT := by kernel_rfl
def AyS := AsN AwJ.eq_1
def AyT := AsN AwN.eq_1
def AyH := AsN AwM.eq_1
def Ayq := AsN AwI.eq_1
def AyQ := AsN AwK.eq_1
def AyB := AsN Avf.eq_1
def Ayt := AsN Ave.eq_1
def AyM := AsN AwL.eq_1
def Ayy := AsN AwH.eq_1
def Aya := AsN Awm.eq_1
def ABM := AsN AxT.eq_1
theorem ABQ {K : TV → Prop} {e : Env} {H : List Ob} : res AvT e H K = res [.tmp 4] e H K := AsM rfl
def AtG := (And.intro (And.intro (And.intro (And.intro @AyS @AyT) (And.intro @AyH @Ayq)) (And.intro (And.intro @AyQ @AyB) (And.intro @Ayt @AyM))) (And.intro (And.intro @Ayy @Aya) (And.intro @ABM @ABQ)))
def AB9 := Awq 42 Tryd.func21 ACY ACW rfl

def Awh : AsQ := .seq (.block 1 (.seq (.ops [po_ 19 (.idxA 20 (.t 15) (.t 17)),
  po_ 20 (.load true 20 (.t 19)),
  so_ 7 (.alloc (.arr 20 1 [.val (.int .u8 ((0 : Nat) : Int)), .val (.int .u8 ((0 : Nat) : Int)), .val (.int .u8 ((0 : Nat) : Int)), .val (.int .u8 ((0 : Nat) : Int)), .val (.int .u8 ((0 : Nat) : Int)), .val (.int .u8 ((0 : Nat) : Int)), .val (.int .u8 ((0 : Nat) : Int)), .val (.int .u8 ((0 : Nat) : Int)), .val (.int .u8 ((0 : Nat) : Int)), .val (.int .u8 ((0 : Nat) : Int)), .val (.int .u8 ((0 : Nat) : Int)), .val (.int .u8 ((0 : Nat) : Int)), .val (.int .u8 ((0 : Nat) : Int)), .val (.int .u8 ((0 : Nat) : Int)), .val (.int .u8 ((0 : Nat) : Int)), .val (.int .u8 ((0 : Nat) : Int)), .val (.int .u8 ((0 : Nat) : Int)), .val (.int .u8 ((0 : Nat) : Int)), .val (.int .u8 ((0 : Nat) : Int)), .val (.int .u8 ((0 : Nat) : Int))])),
  ⟨none, .s (.store 20 (.t 7) (.t 20)), none⟩] [0, 1, 5, 7, 15, 16, 17])
 (.draw 5 [mv_ 21 5,
  mv_ 22 0,
  po_ 23 (.nilc (.t 22)),
  po_ 24 (.fieldA 0 0 (.t 23)),
  po_ 25 (.load false 1 (.t 24)),
  po_ 26 (.load true 20 (.t 7)),
  po_ 27 (.gen (.look (.arr 20) (.agg [.arr 20 1 [.val (.int .u8 ((0 : Nat) : Int)), .val (.int .u8 ((0 : Nat) : Int)), .val (.int .u8 ((0 : Nat) : Int)), .val (.int .u8 ((0 : Nat) : Int)), .val (.int .u8 ((0 : Nat) : Int)), .val (.int .u8 ((0 : Nat) : Int)), .val (.int .u8 ((0 : Nat) : Int)), .val (.int .u8 ((0 : Nat) : Int)), .val (.int .u8 ((0 : Nat) : Int)), .val (.int .u8 ((0 : Nat) : Int)), .val (.int .u8 ((0 : Nat) : Int)), .val (.int .u8 ((0 : Nat) : Int)), .val (.int .u8 ((0 : Nat) : Int)), .val (.int .u8 ((0 : Nat) : Int)), .val (.int .u8 ((0 : Nat) : Int)), .val (.int .u8 ((0 : Nat) : Int)), .val (.int .u8 ((0 : Nat) : Int)), .val (.int .u8 ((0 : Nat) : Int)), .val (.int .u8 ((0 : Nat) : Int)), .val (.int .u8 ((0 : Nat) : Int))], .val (.slice none 0 0), .val (.int .i64 ((0 : Nat) : Int))]) false) [.t 25, .t 26]),
  po_ 28 (.field false 1 1 20 (.t 27)),
  so_ 29 (.app 20 20 40 (.t 21) (.t 28)),
  mv_ 5 29] [0, 1, 5, 15, 16, 17])))
 (.ops [po_ 30 (.bin 3 .add (.t 17) (ci_ 1)),
  mv_ 17 30] [0, 1, 5, 15, 16, 17])
def Awl : AsQ := .seq (.cond (.t 18)
 (.skip)
 (.exit 0))
 Awh
def Awv : AsQ := .seq (.ops [po_ 18 (.bin 3 .lss (.t 17) (.t 16))] [0, 1, 5, 15, 16, 17, 18])
 Awl
def Awi : AsQ := .block 0 (.own 5 20 (.loop [0, 1, 5, 15, 16, 17] Awv))
def Awj : AsQ := .seq (.ops [mv_ 31 0,
  mv_ 32 5,
  so_ 33 (.call 21 [.t 31, .t 32]),
  mv_ 8 33] [1, 8])
 (.seq (.ops [mv_ 34 1,
  mv_ 35 8,
  po_ 36 (.mkf (.func 25) [.t 35] []),
  so_ 37 (.call 49 [.t 34, .t 36]),
  mv_ 4 37] [4])
 (.ret))
def Awk : AsQ := .seq (.seq (.ops [mv_ 15 1,
  po_ 16 (.lenV (.t 15)),
  po_ 17 (.mov (ci_ 0))] [0, 1, 5, 15, 16, 17])
 Awi)
 Awj
def At9 : AsQ := .seq (.ops [po_ 5 (.mov (.c (.slice none 0 0)))] [0, 1, 5])
 Awk
def Awf : AsQ := .seq (.ops [mv_ 13 1,
  so_ 14 (.call 48 [.t 13]),
  mv_ 1 14] [0, 1])
 At9
def Awn : AsQ := .seq (.ops [mv_ 11 1,
  so_ 12 (.call 45 [.t 11, .c (.func (.func 46) #[] #[])])] [0, 1])
 Awf
def Av7 : AsQ := .seq (.ops [mv_ 9 1,
  so_ 10 (.call 38 [.t 9]),
  mv_ 1 10] [0, 1])
 Awn
def Axy : AsQ := .seq (.ops [po_ 4 (.mov (.c (.slice none 0 0)))] [0, 1])
 Av7
def AuZ : List VR := [.tmp 4]
theorem ACa : Tryd.f33.body.bind (trC Tryd.prog Tryd.f33.ntmps) = some (er Axy) := by kernel_rfl
theorem ACb : trR Tryd.prog Tryd.f33.results.toList = some AuZ := by kernel_rfl
def Ayg := AsN Awh.eq_1
def Aym := AsN Awl.eq_1
def Ayj := AsN Awv.eq_1
def Ayh := AsN Awi.eq_1
def Ayi := AsN Awj.eq_1
def Ax9 := AsN Awk.eq_1
def Ayd := AsN At9.eq_1
def AuU := AsN Awf.eq_1
def AuV := AsN Awn.eq_1
def AuB := AsN Av7.eq_1
def AAx := AsN Axy.eq_1
theorem AAz {K : TV → Prop} {e : Env} {H : List Ob} : res AuZ e H K = res [.tmp 4] e H K := AsM rfl
def Atk := (And.intro (And.intro (And.intro (And.intro @Ayg @Aym) (And.intro @Ayj @Ayh)) (And.intro (And.intro @Ayi @Ax9) (And.intro @Ayd @AuU))) (And.intro (And.intro @AuV @AuB) (And.intro @AAx @AAz)))
def ABG := Awq 38 Tryd.func33 ACa ACb rfl

def AA3 : AsQ := .seq (.ops [so_ 3 (.box (.t 1)),
  po_ 4 (.mov (.c (.bool false)))] [0, 3])
 (.seq (.ops [mv_ 8 0,
  po_ 9 (.load true 20 (.t 3)),
  po_ 10 (.gen (.look (.arr 20) (.agg []) true) [.t 8, .t 9]),
  mv_ 7 10,
  po_ 11 (.ext 0 (.t 7)),
  po_ 12 (.ext 1 (.t 7)),
  so_ 5 (.alloc (.agg [])),
  ⟨none, .s (.store 0 (.t 5) (.t 11)), none⟩,
  mv_ 6 12] [6])
 (.seq (.ops [mv_ 13 6,
  mv_ 4 13] [4])
 (.ret)))
def ABq : List VR := [.tmp 4]
theorem AGT : Tryd.f25.body.bind (trC Tryd.prog Tryd.f25.ntmps) = some (er AA3) := by kernel_rfl
theorem AGR : trR Tryd.prog Tryd.f25.results.toList = some ABq := by kernel_rfl
def AES := AsN AA3.eq_1
theorem AFe {K : TV → Prop} {e : Env} {H : List Ob} : res ABq e H K = res [.tmp 4] e H K := AsM rfl
def AAK := (And.intro @AES @AFe)
def AGA := Awq 14 Tryd.func25 AGT AGR rfl

def AxQ : AsQ := .seq (.ops [so_ 2 (.box (.t 0)),
  po_ 4 (.mov (.c (.bool false)))] [1, 2])
 (.seq (.ops [mv_ 5 1,
  po_ 6 (.mkf (.func 51) [] [.t 2]),
  so_ 7 (.call 50 [.t 5, .t 6]),
  po_ 8 (.un .not (.t 7)),
  mv_ 4 8] [4])
 (.ret))
def AxW : List VR := [.tmp 4]
theorem ACK : Tryd.f36.body.bind (trC Tryd.prog Tryd.f36.ntmps) = some (er AxQ) := by kernel_rfl
theorem ACN : trR Tryd.prog Tryd.f36.results.toList = some AxW := by kernel_rfl
def AA5 := AsN AxQ.eq_1
theorem ABl {K : TV → Prop} {e : Env} {H : List Ob} : res AxW e H K = res [.tmp 4] e H K := AsM rfl
def AxP := (And.intro @AA5 @ABl)
def AB3 := Awq 9 Tryd.func36 ACK ACN rfl

def Av6 : AsQ := .seq (.draw 9 [po_ 7 (.load false 1 (.t 1)),
  po_ 8 (.nilc (.t 7)),
  po_ 9 (.fieldA 0 0 (.t 8)),
  po_ 10 (.load false 1 (.t 9)),
  po_ 11 (.load true 20 (.t 2)),
  po_ 12 (.gen (.look (.arr 20) (.agg [.arr 20 1 [.val (.int .u8 ((0 : Nat) : Int)), .val (.int .u8 ((0 : Nat) : Int)), .val (.int .u8 ((0 : Nat) : Int)), .val (.int .u8 ((0 : Nat) : Int)), .val (.int .u8 ((0 : Nat) : Int)), .val (.int .u8 ((0 : Nat) : Int)), .val (.int .u8 ((0 : Nat) : Int)), .val (.int .u8 ((0 : Nat) : Int)), .val (.int .u8 ((0 : Nat) : Int)), .val (.int .u8 ((0 : Nat) : Int)), .val (.int .u8 ((0 : Nat) : Int)), .val (.int .u8 ((0 : Nat) : Int)), .val (.int .u8 ((0 : Nat) : Int)), .val (.int .u8 ((0 : Nat) : Int)), .val (.int .u8 ((0 : Nat) : Int)), .val (.int .u8 ((0 : Nat) : Int)), .val (.int .u8 ((0 : Nat) : Int)), .val (.int .u8 ((0 : Nat) : Int)), .val (.int .u8 ((0 : Nat) : Int)), .val (.int .u8 ((0 : Nat) : Int))], .val (.slice none 0 0), .val (.int .i64 ((0 : Nat) : Int))]) true) [.t 10, .t 11]),
  mv_ 6 12,
  po_ 13 (.ext 0 (.t 6)),
  po_ 14 (.ext 1 (.t 6)),
  so_ 4 (.alloc (.agg [.arr 20 1 [.val (.int .u8 ((0 : Nat) : Int)), .val (.int .u8 ((0 : Nat) : Int)), .val (.int .u8 ((0 : Nat) : Int)), .val (.int .u8 ((0 : Nat) : Int)), .val (.int .u8 ((0 : Nat) : Int)), .val (.int .u8 ((0 : Nat) : Int)), .val (.int .u8 ((0 : Nat) : Int)), .val (.int .u8 ((0 : Nat) : Int)), .val (.int .u8 ((0 : Nat) : Int)), .val (.int .u8 ((0 : Nat) : Int)), .val (.int .u8 ((0 : Nat) : Int)), .val (.int .u8 ((0 : Nat) : Int)), .val (.int .u8 ((0 : Nat) : Int)), .val (.int .u8 ((0 : Nat) : Int)), .val (.int .u8 ((0 : Nat) : Int)), .val (.int .u8 ((0 : Nat) : Int)), .val (.int .u8 ((0 : Nat) : Int)), .val (.int .u8 ((0 : Nat) : Int)), .val (.int .u8 ((0 : Nat) : Int)), .val (.int .u8 ((0 : Nat) : Int))], .val (.slice none 0 0), .val (.int .i64 ((0 : Nat) : Int))])),
  ⟨none, .s (.store 22 (.t 4) (.t 13)), none⟩,
  mv_ 5 14] [5])
 (.seq (.ops [mv_ 15 5,
  po_ 16 (.un .not (.t 15)),
  mv_ 3 16] [3])
 (.ret))
def Aw7 : AsQ := .seq (.ops [so_ 2 (.box (.t 0)),
  po_ 3 (.mov (.c (.bool false)))] [1, 2])
 Av6
def Aw4 : List VR := [.tmp 3]
theorem AAH : Tryd.f51.body.bind (trC Tryd.prog Tryd.f51.ntmps) = some (er Aw7) := by kernel_rfl
theorem AA4 : trR Tryd.prog Tryd.f51.results.toList = some Aw4 := by kernel_rfl
def AxX := AsN Av6.eq_1
def Ay0 := AsN Aw7.eq_1
theorem Ay1 {K : TV → Prop} {e : Env} {H : List Ob} : res Aw4 e H K = res [.tmp 3] e H K := AsM rfl
def Axb := (And.intro (And.intro @AxX @Ay0) @Ay1)
def AAC := Awq 17 Tryd.func51 AAH AA4 rfl

def AyD : AsQ := .seq (.opsZ [mv_ 26 0,
  po_ 27 (.load true 20 (.t 4)),
  ⟨some 28, .s (.bslice 20 1 (.arr 20 1 [.val (.int .u8 ((0 : Nat) : Int)), .val (.int .u8 ((0 : Nat) : Int)), .val (.int .u8 ((0 : Nat) : Int)), .val (.int .u8 ((0 : Nat) : Int)), .val (.int .u8 ((0 : Nat) : Int)), .val (.int .u8 ((0 : Nat) : Int)), .val (.int .u8 ((0 : Nat) : Int)), .val (.int .u8 ((0 : Nat) : Int)), .val (.int .u8 ((0 : Nat) : Int)), .val (.int .u8 ((0 : Nat) : Int)), .val (.int .u8 ((0 : Nat) : Int)), .val (.int .u8 ((0 : Nat) : Int)), .val (.int .u8 ((0 : Nat) : Int)), .val (.int .u8 ((0 : Nat) : Int)), .val (.int .u8 ((0 : Nat) : Int)), .val (.int .u8 ((0 : Nat) : Int)), .val (.int .u8 ((0 : Nat) : Int)), .val (.int .u8 ((0 : Nat) : Int)), .val (.int .u8 ((0 : Nat) : Int)), .val (.int .u8 ((0 : Nat) : Int))]) [⟨0, .t 27⟩]), none⟩] [28] [so_ 29 (.call 29 [.t 26, .t 28]),
  mv_ 9 29] [0, 5, 9])
 (.seq (.ops [mv_ 30 9,
  mv_ 31 0,
  po_ 32 (.load true 20 (.t 5)),
  so_ 33 (.call 32 [.t 31, .t 32]),
  po_ 34 (.idxA 1 (.t 30) (.t 33)),
  po_ 35 (.load false 1 (.t 34)),
  mv_ 6 35,
  po_ 7 (.mov (ci_ 0))] [6, 7])
 (.ret))
def AyU : AsQ := .seq (.seq (.ops [mv_ 12 8,
  po_ 13 (.bin 3 .neq (.t 12) (ci_ 0)),
  mv_ 14 13,
  ⟨some 15, .p (.mov (.t 0)), some ⟨14, false⟩⟩,
  ⟨some 16, .p (.load true 20 (.t 4)), some ⟨14, false⟩⟩,
  ⟨some 17, .s (.call 32 [.t 15, .t 16]), some ⟨14, false⟩⟩,
  ⟨some 18, .p (.bin 3 .lss (.t 17) (ci_ 0)), some ⟨14, false⟩⟩,
  po_ 19 (.pick (.t 14) (.c (.bool true)) (.t 18)),
  mv_ 20 19,
  ⟨some 21, .p (.mov (.t 0)), some ⟨20, false⟩⟩,
  ⟨some 22, .p (.load true 20 (.t 5)), some ⟨20, false⟩⟩,
  ⟨some 23, .s (.call 32 [.t 21, .t 22]), some ⟨20, false⟩⟩,
  ⟨some 24, .p (.bin 3 .lss (.t 23) (ci_ 0)), some ⟨20, false⟩⟩,
  po_ 25 (.pick (.t 20) (.c (.bool true)) (.t 24))] [0, 4, 5, 25])
 (.cond (.t 25)
 (.seq (.ops [po_ 6 (.mov (.c (.bool false))),
   po_ 7 (.mov (ci_ 80))] [6, 7])
  (.ret))
 (.skip)))
 AyD
def Ayn : AsQ := .seq (.ops [mv_ 10 0,
  so_ 11 (.call 27 [.t 10]),
  mv_ 8 11] [0, 4, 5, 8])
 AyU
def ACi : AsQ := .seq (.ops [so_ 4 (.box (.t 1)),
  so_ 5 (.box (.t 2)),
  po_ 6 (.mov (.c (.bool false))),
  po_ 7 (.mov (ci_ 0))] [0, 4, 5])
 Ayn
def ACd : List VR := [.tmp 6, .tmp 7]
theorem AH7 : Tryd.f14.body.bind (trC Tryd.prog Tryd.f14.ntmps) = some (er ACi) := by kernel_rfl
theorem AHP : trR Tryd.prog Tryd.f14.results.toList = some ACd := by kernel_rfl
def ACx := AsN AyD.eq_1
def ACH := AsN AyU.eq_1
def ACy := AsN Ayn.eq_1
def AGu := AsN ACi.eq_1
theorem AGr {K : TV → Prop} {e : Env} {H : List Ob} : res ACd e H K = res [.tmp 6, .tmp 7] e H K := AsM rfl
def AtO := (And.intro (And.intro (And.intro @ACx @ACH) (And.intro @ACy @AGu)) @AGr)
def AHj := Awq 36 Tryd.func14 AH7 AHP rfl

def ABu : AsQ := .ops [mv_ 53 11,
  mv_ 54 0,
  mv_ 55 12,
  po_ 56 (.idxA 22 (.t 54) (.t 55)),
  po_ 57 (.fieldA 0 0 (.t 56)),
  po_ 58 (.load true 20 (.t 57)),
  ⟨some 59, .s (.bslice 20 1 (.arr 20 1 [.val (.int .u8 ((0 : Nat) : Int)), .val (.int .u8 ((0 : Nat) : Int)), .val (.int .u8 ((0 : Nat) : Int)), .val (.int .u8 ((0 : Nat) : Int)), .val (.int .u8 ((0 : Nat) : Int)), .val (.int .u8 ((0 : Nat) : Int)), .val (.int .u8 ((0 : Nat) : Int)), .val (.int .u8 ((0 : Nat) : Int)), .val (.int .u8 ((0 : Nat) : Int)), .val (.int .u8 ((0 : Nat) : Int)), .val (.int .u8 ((0 : Nat) : Int)), .val (.int .u8 ((0 : Nat) : Int)), .val (.int .u8 ((0 : Nat) : Int)), .val (.int .u8 ((0 : Nat) : Int)), .val (.int .u8 ((0 : Nat) : Int)), .val (.int .u8 ((0 : Nat) : Int)), .val (.int .u8 ((0 : Nat) : Int)), .val (.int .u8 ((0 : Nat) : Int)), .val (.int .u8 ((0 : Nat) : Int)), .val (.int .u8 ((0 : Nat) : Int))]) [⟨0, .t 58⟩]), none⟩,
  so_ 60 (.app 20 20 39 (.t 53) (.t 59)),
  mv_ 11 60] [0, 9, 10, 11, 12]
def ABO : AsQ := .seq (.block 1 (.seq (.ops [mv_ 43 9,
  mv_ 44 12,
  po_ 45 (.idxA 1 (.t 43) (.t 44)),
  po_ 46 (.load false 1 (.t 45)),
  mv_ 47 46,
  ⟨some 48, .p (.mov (.t 10)), some ⟨47, true⟩⟩,
  ⟨some 49, .p (.mov (.t 12)), some ⟨47, true⟩⟩,
  ⟨some 50, .p (.idxA 1 (.t 48) (.t 49)), some ⟨47, true⟩⟩,
  ⟨some 51, .p (.load false 1 (.t 50)), some ⟨47, true⟩⟩,
  po_ 52 (.pick (.t 47) (.t 51) (.c (.bool false)))] [0, 9, 10, 11, 12, 52])
 (.cond (.t 52)
 ABu
 (.skip))))
 (.ops [mv_ 41 12,
  po_ 42 (.bin 3 .add (.t 41) (ci_ 1)),
  mv_ 12 42] [0, 9, 10, 11, 12])
def AA8 : AsQ := .seq (.seq (.ops [mv_ 37 12,
  mv_ 38 0,
  po_ 39 (.lenV (.t 38)),
  po_ 40 (.bin 3 .lss (.t 37) (.t 39))] [0, 9, 10, 11, 12, 40])
 (.cond (.t 40)
 (.skip)
 (.exit 0)))
 ABO
def AAW : AsQ := .block 0 (.own 11 20 (.loop [0, 9, 10, 11, 12] AA8))
def AAD : AsQ := .seq (.opsZ [mv_ 61 0,
  mv_ 62 11] [62] [so_ 63 (.call 18 [.t 61, .t 62]),
  po_ 64 (.ext 0 (.t 63)),
  po_ 65 (.ext 1 (.t 63)),
  mv_ 6 64,
  mv_ 7 65] [6, 7])
 (.ret)
def AAP : AsQ := .seq (.seq (.ops [po_ 12 (.mov (ci_ 0))] [0, 9, 10, 11, 12])
 AAW)
 AAD
def AAS : AsQ := .seq (.ops [po_ 11 (.mov (.c (.slice none 0 0)))] [0, 9, 10, 11])
 AAP
def ABx : AsQ := .seq (.opsZ [mv_ 33 0,
  po_ 34 (.load true 20 (.t 5)),
  ⟨some 35, .s (.bslice 20 1 (.arr 20 1 [.val (.int .u8 ((0 : Nat) : Int)), .val (.int .u8 ((0 : Nat) : Int)), .val (.int .u8 ((0 : Nat) : Int)), .val (.int .u8 ((0 : Nat) : Int)), .val (.int .u8 ((0 : Nat) : Int)), .val (.int .u8 ((0 : Nat) : Int)), .val (.int .u8 ((0 : Nat) : Int)), .val (.int .u8 ((0 : Nat) : Int)), .val (.int .u8 ((0 : Nat) : Int)), .val (.int .u8 ((0 : Nat) : Int)), .val (.int .u8 ((0 : Nat) : Int)), .val (.int .u8 ((0 : Nat) : Int)), .val (.int .u8 ((0 : Nat) : Int)), .val (.int .u8 ((0 : Nat) : Int)), .val (.int .u8 ((0 : Nat) : Int)), .val (.int .u8 ((0 : Nat) : Int)), .val (.int .u8 ((0 : Nat) : Int)), .val (.int .u8 ((0 : Nat) : Int)), .val (.int .u8 ((0 : Nat) : Int)), .val (.int .u8 ((0 : Nat) : Int))]) [⟨0, .t 34⟩]), none⟩] [35] [so_ 36 (.call 29 [.t 33, .t 35]),
  mv_ 10 36] [0, 9, 10])
 AAS
def ABe : AsQ := .seq (.opsZ [mv_ 29 0,
  po_ 30 (.load true 20 (.t 4)),
  ⟨some 31, .s (.bslice 20 1 (.arr 20 1 [.val (.int .u8 ((0 : Nat) : Int)), .val (.int .u8 ((0 : Nat) : Int)), .val (.int .u8 ((0 : Nat) : Int)), .val (.int .u8 ((0 : Nat) : Int)), .val (.int .u8 ((0 : Nat) : Int)), .val (.int .u8 ((0 : Nat) : Int)), .val (.int .u8 ((0 : Nat) : Int)), .val (.int .u8 ((0 : Nat) : Int)), .val (.int .u8 ((0 : Nat) : Int)), .val (.int .u8 ((0 : Nat) : Int)), .val (.int .u8 ((0 : Nat) : Int)), .val (.int .u8 ((0 : Nat) : Int)), .val (.int .u8 ((0 : Nat) : Int)), .val (.int .u8 ((0 : Nat) : Int)), .val (.int .u8 ((0 : Nat) : Int)), .val (.int .u8 ((0 : Nat) : Int)), .val (.int .u8 ((0 : Nat) : Int)), .val (.int .u8 ((0 : Nat) : Int)), .val (.int .u8 ((0 : Nat) : Int)), .val (.int .u8 ((0 : Nat) : Int))]) [⟨0, .t 30⟩]), none⟩] [31] [so_ 32 (.call 29 [.t 29, .t 31]),
  mv_ 9 32] [0, 5, 9])
 ABx
def AzK : AsQ := .seq (.seq (.ops [mv_ 15 8,
  po_ 16 (.bin 3 .neq (.t 15) (ci_ 0)),
  mv_ 17 16,
  ⟨some 18, .p (.mov (.t 0)), some ⟨17, false⟩⟩,
  ⟨some 19, .p (.load true 20 (.t 4)), some ⟨17, false⟩⟩,
  ⟨some 20, .s (.call 32 [.t 18, .t 19]), some ⟨17, false⟩⟩,
  ⟨some 21, .p (.bin 3 .lss (.t 20) (ci_ 0)), some ⟨17, false⟩⟩,
  po_ 22 (.pick (.t 17) (.c (.bool true)) (.t 21)),
  mv_ 23 22,
  ⟨some 24, .p (.mov (.t 0)), some ⟨23, false⟩⟩,
  ⟨some 25, .p (.load true 20 (.t 5)), some ⟨23, false⟩⟩,
  ⟨some 26, .s (.call 32 [.t 24, .t 25]), some ⟨23, false⟩⟩,
  ⟨some 27, .p (.bin 3 .lss (.t 26) (ci_ 0)), some ⟨23, false⟩⟩,
  po_ 28 (.pick (.t 23) (.c (.bool true)) (.t 27))] [0, 4, 5, 28])
 (.cond (.t 28)
 (.seq (.ops [po_ 6 (.mov (.c (.slice none 0 0))),
   po_ 7 (.mov (ci_ 80))] [6, 7])
  (.ret))
 (.skip)))
 ABe
def AzN : AsQ := .seq (.ops [mv_ 13 0,
  so_ 14 (.call 27 [.t 13]),
  mv_ 8 14] [0, 4, 5, 8])
 AzK
def AFU : AsQ := .seq (.ops [so_ 4 (.box (.t 1)),
  so_ 5 (.box (.t 2)),
  po_ 6 (.mov (.c (.slice none 0 0))),
  po_ 7 (.mov (ci_ 0))] [0, 4, 5])
 AzN
def AGd : List VR := [.tmp 6, .tmp 7]
theorem AKy : Tryd.f16.body.bind (trC Tryd.prog Tryd.f16.ntmps) = some (er AFU) := by kernel_rfl
theorem AKF : trR Tryd.prog Tryd.f16.results.toList = some AGd := by kernel_rfl
def AFO := AsN ABu.eq_1
def AE2 := AsN ABO.eq_1
def AFh := AsN AA8.eq_1
def AFI := AsN AAW.eq_1
def AE1 := AsN AAD.eq_1
def AFr := AsN AAP.eq_1
def AEO := AsN AAS.eq_1
def AFt := AsN ABx.eq_1
def AFj := AsN ABe.eq_1
def AEs := AsN AzK.eq_1
def AEB := AsN AzN.eq_1
def AH9 := AsN AFU.eq_1
theorem AHU {K : TV → Prop} {e : Env} {H : List Ob} : res AGd e H K = res [.tmp 6, .tmp 7] e H K := AsM rfl
def Atp := (And.intro (And.intro (And.intro (And.intro @AFO @AE2) (And.intro @AFh @AFI)) (And.intro (And.intro @AE1 @AFr) (And.intro @AEO @AFt))) (And.intro (And.intro (And.intro @AFj @AEs) (And.intro @AEB @AH9)) @AHU))
def AJv := Awq 66 Tryd.func16 AKy AKF rfl

def Azg : AsQ := .seq (.ops [mv_ 46 12,
  mv_ 47 10,
  po_ 48 (.bin 3 .neq (.t 46) (.t 47)),
  mv_ 49 48,
  ⟨some 50, .p (.mov (.t 13)), some ⟨49, true⟩⟩,
  ⟨some 51, .p (.mov (.t 0)), some ⟨49, true⟩⟩,
  ⟨some 52, .p (.mov (.t 9)), some ⟨49, true⟩⟩,
  ⟨some 53, .p (.mov (.t 10)), some ⟨49, true⟩⟩,
  ⟨some 54, .p (.idxA 20 (.t 52) (.t 53)), some ⟨49, true⟩⟩,
  ⟨some 55, .p (.load true 20 (.t 54)), some ⟨49, true⟩⟩,
  ⟨some 56, .s (.call 32 [.t 51, .t 55]), some ⟨49, true⟩⟩,
  ⟨some 57, .p (.idxA 1 (.t 50) (.t 56)), some ⟨49, true⟩⟩,
  ⟨some 58, .p (.load false 1 (.t 57)), some ⟨49, true⟩⟩,
  po_ 59 (.pick (.t 49) (.t 58) (.c (.bool false)))] [0, 8, 9, 10, 11, 12, 59])
 (.cond (.t 59)
 (.ops [po_ 11 (.mov (.c (.bool false)))] [0, 8, 9, 10, 11, 12])
 (.skip))
def Azm : AsQ := .seq (.block 3 (.seq (.opsZ [mv_ 39 0,
  mv_ 40 9,
  mv_ 41 12,
  po_ 42 (.idxA 20 (.t 40) (.t 41)),
  po_ 43 (.load true 20 (.t 42)),
  ⟨some 44, .s (.bslice 20 1 (.arr 20 1 [.val (.int .u8 ((0 : Nat) : Int)), .val (.int .u8 ((0 : Nat) : Int)), .val (.int .u8 ((0 : Nat) : Int)), .val (.int .u8 ((0 : Nat) : Int)), .val (.int .u8 ((0 : Nat) : Int)), .val (.int .u8 ((0 : Nat) : Int)), .val (.int .u8 ((0 : Nat) : Int)), .val (.int .u8 ((0 : Nat) : Int)), .val (.int .u8 ((0 : Nat) : Int)), .val (.int .u8 ((0 : Nat) : Int)), .val (.int .u8 ((0 : Nat) : Int)), .val (.int .u8 ((0 : Nat) : Int)), .val (.int .u8 ((0 : Nat) : Int)), .val (.int .u8 ((0 : Nat) : Int)), .val (.int .u8 ((0 : Nat) : Int)), .val (.int .u8 ((0 : Nat) : Int)), .val (.int .u8 ((0 : Nat) : Int)), .val (.int .u8 ((0 : Nat) : Int)), .val (.int .u8 ((0 : Nat) : Int)), .val (.int .u8 ((0 : Nat) : Int))]) [⟨0, .t 43⟩]), none⟩] [44] [so_ 45 (.call 29 [.t 39, .t 44]),
  mv_ 13 45] [0, 8, 9, 10, 11, 12, 13])
 Azg))
 (.ops [mv_ 37 12,
  po_ 38 (.bin 3 .add (.t 37) (ci_ 1)),
  mv_ 12 38] [0, 8, 9, 10, 11, 12])
def Az1 : AsQ := .seq (.seq (.ops [mv_ 33 12,
  mv_ 34 9,
  po_ 35 (.lenV (.t 34)),
  po_ 36 (.bin 3 .lss (.t 33) (.t 35))] [0, 8, 9, 10, 11, 12, 36])
 (.cond (.t 36)
 (.skip)
 (.exit 2)))
 Azm
def AzB : AsQ := .block 2 (.loop [0, 8, 9, 10, 11, 12] Az1)
def Az9 : AsQ := .ops [mv_ 61 8,
  mv_ 62 9,
  mv_ 63 10,
  po_ 64 (.idxA 20 (.t 62) (.t 63)),
  po_ 65 (.load true 20 (.t 64)),
  ⟨some 66, .s (.bslice 20 1 (.arr 20 1 [.val (.int .u8 ((0 : Nat) : Int)), .val (.int .u8 ((0 : Nat) : Int)), .val (.int .u8 ((0 : Nat) : Int)), .val (.int .u8 ((0 : Nat) : Int)), .val (.int .u8 ((0 : Nat) : Int)), .val (.int .u8 ((0 : Nat) : Int)), .val (.int .u8 ((0 : Nat) : Int)), .val (.int .u8 ((0 : Nat) : Int)), .val (.int .u8 ((0 : Nat) : Int)), .val (.int .u8 ((0 : Nat) : Int)), .val (.int .u8 ((0 : Nat) : Int)), .val (.int .u8 ((0 : Nat) : Int)), .val (.int .u8 ((0 : Nat) : Int)), .val (.int .u8 ((0 : Nat) : Int)), .val (.int .u8 ((0 : Nat) : Int)), .val (.int .u8 ((0 : Nat) : Int)), .val (.int .u8 ((0 : Nat) : Int)), .val (.int .u8 ((0 : Nat) : Int)), .val (.int .u8 ((0 : Nat) : Int)), .val (.int .u8 ((0 : Nat) : Int))]) [⟨0, .t 65⟩]), none⟩,
  so_ 67 (.app 20 20 39 (.t 61) (.t 66)),
  mv_ 8 67] [0, 8, 9, 10]
def AAd : AsQ := .seq (.ops [mv_ 60 11] [0, 8, 9, 10, 60])
 (.cond (.t 60)
 Az9
 (.skip))
def AAn : AsQ := .seq (.seq (.ops [po_ 12 (.mov (ci_ 0))] [0, 8, 9, 10, 11, 12])
 AzB)
 AAd
def AzL : AsQ := .ops [mv_ 31 10,
  po_ 32 (.bin 3 .add (.t 31) (ci_ 1)),
  mv_ 10 32] [0, 8, 9, 10]
def Azy : AsQ := .seq (.block 1 (.seq (.ops [po_ 11 (.mov (.c (.bool true)))] [0, 8, 9, 10, 11])
 AAn))
 AzL
def AyV : AsQ := .seq (.seq (.ops [mv_ 27 10,
  mv_ 28 9,
  po_ 29 (.lenV (.t 28)),
  po_ 30 (.bin 3 .lss (.t 27) (.t 29))] [0, 8, 9, 10, 30])
 (.cond (.t 30)
 (.skip)
 (.exit 0)))
 Azy
def AyY : AsQ := .block 0 (.own 8 20 (.loop [0, 8, 9, 10] AyV))
def AyP : AsQ := .seq (.ops [mv_ 68 8,
  mv_ 4 68,
  po_ 5 (.mov (ci_ 0))] [4, 5])
 (.ret)
def Ayx : AsQ := .seq (.seq (.ops [po_ 10 (.mov (ci_ 0))] [0, 8, 9, 10])
 AyY)
 AyP
def AyF : AsQ := .seq (.ops [mv_ 25 1,
  so_ 26 (.call 34 [.t 25]),
  mv_ 9 26] [0, 8, 9])
 Ayx
def AyE : AsQ := .seq (.ops [po_ 8 (.mov (.c (.slice none 0 0)))] [0, 1, 8])
 AyF
def Ayv : AsQ := .seq (.seq (.ops [mv_ 19 6,
  po_ 20 (.bin 3 .neq (.t 19) (ci_ 0)),
  mv_ 21 20,
  ⟨some 22, .p (.mov (.t 7)), some ⟨21, false⟩⟩,
  ⟨some 23, .p (.un .not (.t 22)), some ⟨21, false⟩⟩,
  po_ 24 (.pick (.t 21) (.c (.bool true)) (.t 23))] [0, 1, 24])
 (.cond (.t 24)
 (.seq (.ops [po_ 4 (.mov (.c (.slice none 0 0))),
   po_ 5 (.mov (ci_ 80))] [4, 5])
  (.ret))
 (.skip)))
 AyE
def AyO : AsQ := .seq (.ops [mv_ 16 0,
  mv_ 17 1,
  so_ 18 (.call 28 [.t 16, .t 17]),
  mv_ 7 18] [0, 1, 6, 7])
 Ayv
def Ayz : AsQ := .seq (.ops [mv_ 14 0,
  so_ 15 (.call 27 [.t 14]),
  mv_ 6 15] [0, 1, 6])
 AyO
def ADZ : AsQ := .seq (.ops [po_ 4 (.mov (.c (.slice none 0 0))),
  po_ 5 (.mov (ci_ 0))] [0, 1])
 Ayz
def AC9 : List VR := [.tmp 4, .tmp 5]
theorem AJa : Tryd.f18.body.bind (trC Tryd.prog Tryd.f18.ntmps) = some (er ADZ) := by kernel_rfl
theorem AIU : trR Tryd.prog Tryd.f18.results.toList = some AC9 := by kernel_rfl
def ADJ := AsN Azg.eq_1
def AEr := AsN Azm.eq_1
def ADI := AsN Az1.eq_1
def AEj := AsN AzB.eq_1
def AEt := AsN Az9.eq_1
def ADm := AsN AAd.eq_1
def AEJ := AsN AAn.eq_1
def AD2 := AsN AzL.eq_1
def ADP := AsN Azy.eq_1
def ACV := AsN AyV.eq_1
def ACE := AsN AyY.eq_1
def ACQ := AsN AyP.eq_1
def ACB := AsN Ayx.eq_1
def ACJ := AsN AyF.eq_1
def ACA := AsN AyE.eq_1
def ACz := AsN Ayv.eq_1
def ACR := AsN AyO.eq_1
def ACC := AsN Ayz.eq_1
def AGN := AsN ADZ.eq_1
theorem AG3 {K : TV → Prop} {e : Env} {H : List Ob} : res AC9 e H K = res [.tmp 4, .tmp 5] e H K := AsM rfl
def Ath := (And.intro (And.intro (And.intro (And.intro (And.intro @ADJ @AEr) (And.intro @ADI @AEj)) (And.intro (And.intro @AEt @ADm) (And.intro @AEJ @AD2))) (And.intro (And.intro (And.intro @ADP @ACV) (And.intro @ACE @ACQ)) (And.intro (And.intro @ACB @ACJ) (And.intro @ACA @ACz)))) (And.intro (And.intro @ACR @ACC) (And.intro @AGN @AG3)))
def AHM := Awq 69 Tryd.func18 AJa AIU rfl

def ABc : AsQ := .seq (.seq (.ops [mv_ 6 5,
  mv_ 7 1,
  po_ 8 (.lenV (.t 7)),
  po_ 9 (.bin 3 .lss (.t 6) (.t 8))] [0, 1, 5, 9])
 (.cond (.t 9)
 (.skip)
 (.exit 0)))
 (.seq (.block 1 (.seq (.ops [mv_ 12 0,
  mv_ 13 1,
  mv_ 14 5,
  po_ 15 (.idxA 20 (.t 13) (.t 14)),
  po_ 16 (.load true 20 (.t 15)),
  so_ 17 (.call 32 [.t 12, .t 16]),
  po_ 18 (.bin 3 .lss (.t 17) (ci_ 0))] [0, 1, 5, 18])
 (.cond (.t 18)
 (.seq (.ops [po_ 4 (.mov (.c (.bool false)))] [4])
  (.ret))
 (.skip))))
 (.ops [mv_ 10 5,
  po_ 11 (.bin 3 .add (.t 10) (ci_ 1)),
  mv_ 5 11] [0, 1, 5]))
def AAJ : AsQ := .block 0 (.loop [0, 1, 5] ABc)
def AAM : AsQ := .seq (.ops [po_ 4 (.mov (.c (.bool true)))] [4])
 (.ret)
def ABr : AsQ := .seq (.seq (.ops [po_ 5 (.mov (ci_ 0))] [0, 1, 5])
 AAJ)
 AAM
def AF3 : AsQ := .seq (.ops [po_ 4 (.mov (.c (.bool false)))] [0, 1])
 ABr
def AF4 : List VR := [.tmp 4]
theorem AJ6 : Tryd.f28.body.bind (trC Tryd.prog Tryd.f28.ntmps) = some (er AF3) := by kernel_rfl
theorem AJ7 : trR Tryd.prog Tryd.f28.results.toList = some AF4 := by kernel_rfl
def AEP := AsN ABc.eq_1
def AET := AsN AAJ.eq_1
def AE8 := AsN AAM.eq_1
def AFv := AsN ABr.eq_1
def AHK := AsN AF3.eq_1
theorem AHG {K : TV → Prop} {e : Env} {H : List Ob} : res AF4 e H K = res [.tmp 4] e H K := AsM rfl
def Aw5 := (And.intro (And.intro (And.intro @AEP @AET) (And.intro @AE8 @AFv)) (And.intro @AHK @AHG))
def AIX := Awq 19 Tryd.func28 AJ6 AJ7 rfl

def AzI : AsQ := .seq (.seq (.draw 11 [mv_ 13 5,
  mv_ 14 3,
  po_ 15 (.lenV (.t 14)),
  po_ 16 (.bin 3 .lss (.t 13) (.t 15)),
  mv_ 17 16,
  ⟨some 18, .p (.mov (.t 3)), some ⟨17, true⟩⟩,
  ⟨some 19, .p (.mov (.t 5)), some ⟨17, true⟩⟩,
  ⟨some 20, .p (.idxA 20 (.t 18) (.t 19)), some ⟨17, true⟩⟩,
  ⟨some 21, .p (.slA 20 1 (.t 20) none none), some ⟨17, true⟩⟩,
  ⟨some 22, .p (.b2s (.t 21)), some ⟨17, true⟩⟩,
  ⟨some 23, .p (.mov (.t 0)), some ⟨17, true⟩⟩,
  ⟨some 24, .p (.mov (.t 4)), some ⟨17, true⟩⟩,
  ⟨some 25, .p (.idxA 20 (.t 23) (.t 24)), some ⟨17, true⟩⟩,
  ⟨some 26, .p (.slA 20 1 (.t 25) none none), some ⟨17, true⟩⟩,
  ⟨some 27, .p (.b2s (.t 26)), some ⟨17, true⟩⟩,
  ⟨some 28, .p (.bin 9 .lss (.t 22) (.t 27)), some ⟨17, true⟩⟩,
  po_ 29 (.pick (.t 17) (.t 28) (.c (.bool false)))] [0, 3, 4, 5, 29])
 (.cond (.t 29)
 (.skip)
 (.exit 2)))
 (.block 3 (.ops [mv_ 30 5,
  po_ 31 (.bin 3 .add (.t 30) (ci_ 1)),
  mv_ 5 31] [0, 3, 4, 5]))
def Azs : AsQ := .seq (.ops [mv_ 52 6,
  mv_ 53 0,
  mv_ 54 4,
  po_ 55 (.idxA 20 (.t 53) (.t 54)),
  po_ 56 (.load true 20 (.t 55)),
  ⟨some 57, .s (.bslice 20 1 (.arr 20 1 [.val (.int .u8 ((0 : Nat) : Int)), .val (.int .u8 ((0 : Nat) : Int)), .val (.int .u8 ((0 : Nat) : Int)), .val (.int .u8 ((0 : Nat) : Int)), .val (.int .u8 ((0 : Nat) : Int)), .val (.int .u8 ((0 : Nat) : Int)), .val (.int .u8 ((0 : Nat) : Int)), .val (.int .u8 ((0 : Nat) : Int)), .val (.int .u8 ((0 : Nat) : Int)), .val (.int .u8 ((0 : Nat) : Int)), .val (.int .u8 ((0 : Nat) : Int)), .val (.int .u8 ((0 : Nat) : Int)), .val (.int .u8 ((0 : Nat) : Int)), .val (.int .u8 ((0 : Nat) : Int)), .val (.int .u8 ((0 : Nat) : Int)), .val (.int .u8 ((0 : Nat) : Int)), .val (.int .u8 ((0 : Nat) : Int)), .val (.int .u8 ((0 : Nat) : Int)), .val (.int .u8 ((0 : Nat) : Int)), .val (.int .u8 ((0 : Nat) : Int))]) [⟨0, .t 56⟩]), none⟩,
  so_ 58 (.app 20 20 39 (.t 52) (.t 57)),
  mv_ 6 58] [0, 3, 4, 5, 6])
 (.ops [mv_ 59 6,
  mv_ 60 3,
  mv_ 61 5,
  po_ 62 (.slV 20 (.t 60) (some (.t 61)) none),
  so_ 63 (.app 20 20 39 (.t 59) (.t 62)),
  mv_ 3 63] [0, 3, 4])
def Az2 : AsQ := .seq (.ops [mv_ 47 6,
  mv_ 48 3,
  mv_ 49 5,
  po_ 50 (.slV 20 (.t 48) none (some (.t 49))),
  so_ 51 (.app 20 20 39 (.t 47) (.t 50)),
  mv_ 6 51] [0, 3, 4, 5, 6])
 Azs
def Axj : AsQ := .seq (.ops [po_ 6 (.mov (.c (.slice none 0 0)))] [0, 3, 4, 5, 6])
 Az2
def AzE : AsQ := .seq (.seq (.draw 10 [mv_ 32 5,
  mv_ 33 3,
  po_ 34 (.lenV (.t 33)),
  po_ 35 (.bin 3 .lss (.t 32) (.t 34)),
  mv_ 36 35,
  ⟨some 37, .p (.mov (.t 3)), some ⟨36, true⟩⟩,
  ⟨some 38, .p (.mov (.t 5)), some ⟨36, true⟩⟩,
  ⟨some 39, .p (.idxA 20 (.t 37) (.t 38)), some ⟨36, true⟩⟩,
  ⟨some 40, .p (.load true 20 (.t 39)), some ⟨36, true⟩⟩,
  ⟨some 41, .p (.mov (.t 0)), some ⟨36, true⟩⟩,
  ⟨some 42, .p (.mov (.t 4)), some ⟨36, true⟩⟩,
  ⟨some 43, .p (.idxA 20 (.t 41) (.t 42)), some ⟨36, true⟩⟩,
  ⟨some 44, .p (.load true 20 (.t 43)), some ⟨36, true⟩⟩,
  ⟨some 45, .p (.gen (.eqA 20 false) [.t 40, .t 44]), some ⟨36, true⟩⟩,
  po_ 46 (.pick (.t 36) (.t 45) (.c (.bool false)))] [0, 3, 4, 5, 46])
 (.cond (.t 46)
 (.exit 1)
 (.skip)))
 Axj
def Azv : AsQ := .seq (.block 2 (.own 3 20 (.loop [0, 3, 4, 5] AzI)))
 AzE
def AAm : AsQ := .ops [mv_ 11 4,
  po_ 12 (.bin 3 .add (.t 11) (ci_ 1)),
  mv_ 4 12] [0, 3, 4]
def AzV : AsQ := .seq (.block 1 (.seq (.ops [po_ 5 (.mov (ci_ 0))] [0, 3, 4, 5])
 Azv))
 AAm
def Az8 : AsQ := .seq (.seq (.ops [mv_ 7 4,
  mv_ 8 0,
  po_ 9 (.lenV (.t 8)),
  po_ 10 (.bin 3 .lss (.t 7) (.t 9))] [0, 3, 4, 10])
 (.cond (.t 10)
 (.skip)
 (.exit 0)))
 AzV
def AyI : AsQ := .block 0 (.own 3 20 (.loop [0, 3, 4] Az8))
def Ayo : AsQ := .seq (.ops [mv_ 64 3,
  mv_ 2 64] [2])
 (.ret)
def AyL : AsQ := .seq (.seq (.ops [po_ 4 (.mov (ci_ 0))] [0, 3, 4])
 AyI)
 Ayo
def AyC : AsQ := .seq (.ops [po_ 3 (.mov (.c (.slice none 0 0)))] [0, 3])
 AyL
def AC2 : AsQ := .seq (.ops [po_ 2 (.mov (.c (.slice none 0 0)))] [0])
 AyC
def AEE : List VR := [.tmp 2]
theorem AJw : Tryd.f34.body.bind (trC Tryd.prog Tryd.f34.ntmps) = some (er AC2) := by kernel_rfl
theorem AIT : trR Tryd.prog Tryd.f34.results.toList = some AEE := by kernel_rfl
def Ax1 := AsN AzI.eq_1
def ADN := AsN Azs.eq_1
def AEv := AsN Az2.eq_1
def AEd := AsN Axj.eq_1
def Awp := AsN AzE.eq_1
def ADM := AsN Azv.eq_1
def Aws := AsN AAm.eq_1
def ADd := AsN AzV.eq_1
def ADb := AsN Az8.eq_1
def ACU := AsN AyI.eq_1
def ACM := AsN Ayo.eq_1
def ACG := AsN AyL.eq_1
def AC0 := AsN AyC.eq_1
def AG8 := AsN AC2.eq_1
theorem AHx {K : TV → Prop} {e : Env} {H : List Ob} : res AEE e H K = res [.tmp 2] e H K := AsM rfl
def Ava := (And.intro (And.intro (And.intro (And.intro @Ax1 @ADN) (And.intro @AEv @AEd)) (And.intro (And.intro @Awp @ADM) (And.intro @Aws @ADd))) (And.intro (And.intro (And.intro @ADb @ACU) (And.intro @ACM @ACG)) (And.intro (And.intro @AC0 @AG8) @AHx)))
def AHR := Awq 65 Tryd.func34 AJw AIT rfl

def Axq : AsQ := .seq (.ops [mv_ 89 10,
  mv_ 90 19,
  so_ 91 (.call 18 [.t 89, .t 90]),
  mv_ 88 91,
  po_ 92 (.ext 0 (.t 88)),
  po_ 93 (.ext 1 (.t 88)),
  mv_ 20 92,
  mv_ 14 93] [12, 14, 18, 20])
 (.seq (.ops [mv_ 94 18,
  mv_ 95 20,
  so_ 96 (.call 11 [.t 94, .t 95]),
  mv_ 17 96] [12, 14, 17])
 (.seq (.ops [mv_ 97 17,
  mv_ 98 97,
  ⟨some 99, .p (.mov (.t 12)), some ⟨98, true⟩⟩,
  ⟨some 100, .s (.call 12 [.t 99]), some ⟨98, true⟩⟩,
  ⟨some 101, .p (.mov (.t 14)), some ⟨98, true⟩⟩,
  ⟨some 102, .p (.bin 3 .eql (.t 100) (.t 101)), some ⟨98, true⟩⟩,
  po_ 103 (.pick (.t 98) (.t 102) (.c (.bool false))),
  mv_ 8 103] [8])
 (.ret)))
def Axo : AsQ := .seq (.ops [mv_ 86 3,
  so_ 87 (.call 9 [.t 86]),
  mv_ 19 87] [10, 12, 18, 19])
 Axq
def AvE : AsQ := .seq (.ops [mv_ 81 0,
  mv_ 82 3,
  so_ 83 (.call 17 [.t 81, .t 82]),
  mv_ 80 83,
  po_ 84 (.ext 0 (.t 80)),
  po_ 85 (.ext 1 (.t 80)),
  mv_ 18 84,
  mv_ 12 85] [3, 10, 12, 18])
 Axo
def Axt : AsQ := .seq (.seq (.ops [mv_ 72 17,
  po_ 73 (.un .not (.t 72)),
  mv_ 74 73,
  ⟨some 75, .p (.mov (.t 12)), some ⟨74, false⟩⟩,
  ⟨some 76, .s (.call 12 [.t 75]), some ⟨74, false⟩⟩,
  ⟨some 77, .p (.mov (.t 14)), some ⟨74, false⟩⟩,
  ⟨some 78, .p (.bin 3 .neq (.t 76) (.t 77)), some ⟨74, false⟩⟩,
  po_ 79 (.pick (.t 74) (.c (.bool true)) (.t 78))] [0, 3, 10, 79])
 (.cond (.t 79)
 (.seq (.ops [po_ 8 (.mov (.c (.bool false)))] [8])
  (.ret))
 (.skip)))
 AvE
def Axn : AsQ := .seq (.ops [mv_ 69 15,
  mv_ 70 16,
  so_ 71 (.call 11 [.t 69, .t 70]),
  mv_ 17 71] [0, 3, 10, 12, 14, 17])
 Axt
def Axv : AsQ := .seq (.ops [mv_ 63 10,
  po_ 64 (.load true 20 (.t 5)),
  po_ 65 (.load true 20 (.t 6)),
  so_ 66 (.call 16 [.t 63, .t 64, .t 65]),
  mv_ 62 66,
  po_ 67 (.ext 0 (.t 62)),
  po_ 68 (.ext 1 (.t 62)),
  mv_ 16 67,
  mv_ 14 68] [0, 3, 10, 12, 14, 15, 16])
 Axn
def Axr : AsQ := .seq (.ops [mv_ 56 0,
  po_ 57 (.load true 20 (.t 5)),
  po_ 58 (.load true 20 (.t 6)),
  so_ 59 (.call 15 [.t 56, .t 57, .t 58]),
  mv_ 55 59,
  po_ 60 (.ext 0 (.t 55)),
  po_ 61 (.ext 1 (.t 55)),
  mv_ 15 60,
  mv_ 12 61] [0, 3, 5, 6, 10, 12, 15])
 Axv
def Axs : AsQ := .seq (.seq (.ops [mv_ 46 11,
  mv_ 47 13,
  po_ 48 (.eqB (.t 46) (.t 47) true),
  mv_ 49 48,
  ⟨some 50, .p (.mov (.t 12)), some ⟨49, false⟩⟩,
  ⟨some 51, .s (.call 12 [.t 50]), some ⟨49, false⟩⟩,
  ⟨some 52, .p (.mov (.t 14)), some ⟨49, false⟩⟩,
  ⟨some 53, .p (.bin 3 .neq (.t 51) (.t 52)), some ⟨49, false⟩⟩,
  po_ 54 (.pick (.t 49) (.c (.bool true)) (.t 53))] [0, 3, 5, 6, 10, 54])
 (.cond (.t 54)
 (.seq (.ops [po_ 8 (.mov (.c (.bool false)))] [8])
  (.ret))
 (.skip)))
 Axr
def Axu : AsQ := .seq (.ops [mv_ 40 10,
  po_ 41 (.load true 20 (.t 5)),
  po_ 42 (.load true 20 (.t 6)),
  so_ 43 (.call 14 [.t 40, .t 41, .t 42]),
  mv_ 39 43,
  po_ 44 (.ext 0 (.t 39)),
  po_ 45 (.ext 1 (.t 39)),
  mv_ 13 44,
  mv_ 14 45] [0, 3, 5, 6, 10, 11, 12, 13, 14])
 Axs
def Axa : AsQ := .seq (.ops [mv_ 33 0,
  po_ 34 (.load true 20 (.t 5)),
  po_ 35 (.load true 20 (.t 6)),
  so_ 36 (.call 13 [.t 33, .t 34, .t 35]),
  mv_ 32 36,
  po_ 37 (.ext 0 (.t 32)),
  po_ 38 (.ext 1 (.t 32)),
  mv_ 11 37,
  mv_ 12 38] [0, 3, 5, 6, 10, 11, 12])
 Axu
def Axd : AsQ := .seq (.ops [mv_ 30 0,
  so_ 31 (.call 8 [.t 30]),
  mv_ 10 31] [0, 3, 5, 6, 10])
 Axa
def Axi : AsQ := .seq (.seq (.ops [mv_ 23 9,
  po_ 24 (.un .not (.t 23)),
  mv_ 25 24,
  ⟨some 26, .p (.mov (.t 3)), some ⟨25, false⟩⟩,
  ⟨some 27, .p (.lenV (.t 26)), some ⟨25, false⟩⟩,
  ⟨some 28, .p (.bin 3 .gtr (.t 27) (ci_ 40)), some ⟨25, false⟩⟩,
  po_ 29 (.pick (.t 25) (.c (.bool true)) (.t 28))] [0, 3, 5, 6, 29])
 (.cond (.t 29)
 (.seq (.ops [po_ 8 (.mov (.c (.bool true)))] [8])
  (.ret))
 (.skip)))
 Axd
def Axh : AsQ := .seq (.ops [mv_ 21 0,
  so_ 22 (.call 6 [.t 21]),
  mv_ 9 22] [0, 3, 5, 6, 9])
 Axi
def AyX : AsQ := .seq (.ops [so_ 5 (.box (.t 1)),
  so_ 6 (.box (.t 2)),
  po_ 8 (.mov (.c (.bool false)))] [0, 3, 5, 6])
 Axh
def AwQ : List VR := [.tmp 8]
theorem AEZ : Tryd.f4.body.bind (trC Tryd.prog Tryd.f4.ntmps) = some (er AyX) := by kernel_rfl
theorem AFq : trR Tryd.prog Tryd.f4.results.toList = some AwQ := by kernel_rfl
def AAA := AsN Axq.eq_1
def AAB := AsN Axo.eq_1
def AAw := AsN AvE.eq_1
def Atf := AsN Axt.eq_1
def Atj := AsN Axn.eq_1
def Ati := AsN Axv.eq_1
def As0 := AsN Axr.eq_1
def AsZ := AsN Axs.eq_1
def Ats := AsN Axu.eq_1
def Awu := AsN Axa.eq_1
def Avb := AsN Axd.eq_1
def Awg := AsN Axi.eq_1
def Awr := AsN Axh.eq_1
def AxR := AsN AyX.eq_1
theorem AsY {K : TV → Prop} {e : Env} {H : List Ob} : res AwQ e H K = res [.tmp 8] e H K := AsM rfl
def Atc := (And.intro (And.intro (And.intro (And.intro @AAA @AAB) (And.intro @AAw @Atf)) (And.intro (And.intro @Atj @Ati) (And.intro @As0 @AsZ))) (And.intro (And.intro (And.intro @Ats @Awu) (And.intro @Avb @Awg)) (And.intro (And.intro @Awr @AxR) @AsY)))
def ADL := Awq 104 Tryd.func4 AEZ AFq rfl

def ACo : AsQ := .seq (.block 1 (.seq (.draw 4 [mv_ 17 0,
  mv_ 18 5,
  po_ 19 (.idxA 20 (.t 17) (.t 18)),
  po_ 20 (.load true 20 (.t 19)),
  mv_ 21 1,
  mv_ 22 5,
  po_ 23 (.idxA 20 (.t 21) (.t 22)),
  po_ 24 (.load true 20 (.t 23)),
  po_ 25 (.gen (.eqA 20 true) [.t 20, .t 24])] [0, 1, 5, 25])
 (.cond (.t 25)
 (.seq (.ops [po_ 4 (.mov (.c (.bool false)))] [4])
  (.ret))
 (.skip))))
 (.ops [mv_ 15 5,
  po_ 16 (.bin 3 .add (.t 15) (ci_ 1)),
  mv_ 5 16] [0, 1, 5])
def ACj : AsQ := .seq (.seq (.ops [mv_ 11 5,
  mv_ 12 0,
  po_ 13 (.lenV (.t 12)),
  po_ 14 (.bin 3 .lss (.t 11) (.t 13))] [0, 1, 5, 14])
 (.cond (.t 14)
 (.skip)
 (.exit 0)))
 ACo
def ACn : AsQ := .block 0 (.loop [0, 1, 5] ACj)
def ACp : AsQ := .seq (.ops [po_ 4 (.mov (.c (.bool true)))] [4])
 (.ret)
def ACe : AsQ := .seq (.seq (.ops [po_ 5 (.mov (ci_ 0))] [0, 1, 5])
 ACn)
 ACp
def ACq : AsQ := .seq (.seq (.ops [mv_ 6 0,
  po_ 7 (.lenV (.t 6)),
  mv_ 8 1,
  po_ 9 (.lenV (.t 8)),
  po_ 10 (.bin 3 .neq (.t 7) (.t 9))] [0, 1, 10])
 (.cond (.t 10)
 (.seq (.ops [po_ 4 (.mov (.c (.bool false)))] [4])
  (.ret))
 (.skip)))
 ACe
def AHC : AsQ := .seq (.ops [po_ 4 (.mov (.c (.bool false)))] [0, 1])
 ACq
def AGQ : List VR := [.tmp 4]
theorem ALH : Tryd.f11.body.bind (trC Tryd.prog Tryd.f11.ntmps) = some (er AHC) := by kernel_rfl
theorem ALQ : trR Tryd.prog Tryd.f11.results.toList = some AGQ := by kernel_rfl
def AGp := AsN ACo.eq_1
def AGz := AsN ACj.eq_1
def AGh := AsN ACn.eq_1
def AGy := AsN ACp.eq_1
def AGq := AsN ACe.eq_1
def AGi := AsN ACq.eq_1
def AJx := AsN AHC.eq_1
theorem AJq {K : TV → Prop} {e : Env} {H : List Ob} : res AGQ e H K = res [.tmp 4] e H K := AsM rfl
def AxN := (And.intro (And.intro (And.intro @AGp @AGz) (And.intro @AGh @AGy)) (And.intro (And.intro @AGq @AGi) (And.intro @AJx @AJq)))
def AFV := Awq 26 Tryd.func11 ALH ALQ rfl

def Avi : AsQ := .seq (.ops [po_ 2 (.mov (.c (.slice none 0 0)))] [0])
 (.seq (.seq (.ops [mv_ 3 0,
  so_ 4 (.eqS (.t 3) false)] [0, 4])
 (.cond (.t 4)
 (.seq (.ops [po_ 2 (.mov (.c (.slice none 0 0)))] [2])
  (.ret))
 (.skip)))
 (.seq (.ops [so_ 5 (.bslice 20 0 (.arr 20 1 [.val (.int .u8 ((0 : Nat) : Int)), .val (.int .u8 ((0 : Nat) : Int)), .val (.int .u8 ((0 : Nat) : Int)), .val (.int .u8 ((0 : Nat) : Int)), .val (.int .u8 ((0 : Nat) : Int)), .val (.int .u8 ((0 : Nat) : Int)), .val (.int .u8 ((0 : Nat) : Int)), .val (.int .u8 ((0 : Nat) : Int)), .val (.int .u8 ((0 : Nat) : Int)), .val (.int .u8 ((0 : Nat) : Int)), .val (.int .u8 ((0 : Nat) : Int)), .val (.int .u8 ((0 : Nat) : Int)), .val (.int .u8 ((0 : Nat) : Int)), .val (.int .u8 ((0 : Nat) : Int)), .val (.int .u8 ((0 : Nat) : Int)), .val (.int .u8 ((0 : Nat) : Int)), .val (.int .u8 ((0 : Nat) : Int)), .val (.int .u8 ((0 : Nat) : Int)), .val (.int .u8 ((0 : Nat) : Int)), .val (.int .u8 ((0 : Nat) : Int))]) []),
  mv_ 6 0,
  so_ 7 (.app 20 20 40 (.t 5) (.t 6)),
  mv_ 2 7] [2])
 (.ret)))
def Avk : List VR := [.tmp 2]
theorem Axz : Tryd.f38.body.bind (trC Tryd.prog Tryd.f38.ntmps) = some (er Avi) := by kernel_rfl
theorem AxA : trR Tryd.prog Tryd.f38.results.toList = some Avk := by kernel_rfl
def Axf := AsN Avi.eq_1
theorem Axc {K : TV → Prop} {e : Env} {H : List Ob} : res Avk e H K = res [.tmp 2] e H K := AsM rfl
def As5 := (And.intro @Axf @Axc)
def At6 := Awq 8 Tryd.func38 Axz AxA rfl

def AuF : AsQ := .seq (.ops [mv_ 45 0,
  mv_ 46 3,
  mv_ 47 4,
  mv_ 48 5,
  po_ 49 (.idxA 20 (.t 47) (.t 48)),
  po_ 50 (.load true 20 (.t 49)),
  po_ 51 (.idxA 20 (.t 45) (.t 46)),
  ⟨none, .s (.store 20 (.t 51) (.t 50)), none⟩] [0, 3, 4, 5])
 (.ops [mv_ 52 3,
  po_ 53 (.bin 3 .add (.t 52) (ci_ 1)),
  mv_ 3 53] [0, 3, 4, 5])
def AuJ : AsQ := .seq (.block 3 (.seq (.draw 5 [mv_ 35 4,
  mv_ 36 5,
  po_ 37 (.idxA 20 (.t 35) (.t 36)),
  po_ 38 (.load true 20 (.t 37)),
  mv_ 39 4,
  mv_ 40 5,
  po_ 41 (.bin 3 .sub (.t 40) (ci_ 1)),
  po_ 42 (.idxA 20 (.t 39) (.t 41)),
  po_ 43 (.load true 20 (.t 42)),
  po_ 44 (.gen (.eqA 20 true) [.t 38, .t 43])] [0, 3, 4, 5, 44])
 (.cond (.t 44)
 AuF
 (.skip))))
 (.ops [mv_ 33 5,
  po_ 34 (.bin 3 .add (.t 33) (ci_ 1)),
  mv_ 5 34] [0, 3, 4, 5])
def AuM : AsQ := .seq (.seq (.ops [mv_ 29 5,
  mv_ 30 4,
  po_ 31 (.lenV (.t 30)),
  po_ 32 (.bin 3 .lss (.t 29) (.t 31))] [0, 3, 4, 5, 32])
 (.cond (.t 32)
 (.skip)
 (.exit 2)))
 AuJ
def AuK : AsQ := .block 2 (.loop [0, 3, 4, 5] AuM)
def AuR : AsQ := .seq (.ops [mv_ 54 0,
  mv_ 55 3,
  po_ 56 (.slV 20 (.t 54) (some (.t 55)) none),
  ⟨none, .s (.clrS 20 (.arr 20 1 [.val (.int .u8 ((0 : Nat) : Int)), .val (.int .u8 ((0 : Nat) : Int)), .val (.int .u8 ((0 : Nat) : Int)), .val (.int .u8 ((0 : Nat) : Int)), .val (.int .u8 ((0 : Nat) : Int)), .val (.int .u8 ((0 : Nat) : Int)), .val (.int .u8 ((0 : Nat) : Int)), .val (.int .u8 ((0 : Nat) : Int)), .val (.int .u8 ((0 : Nat) : Int)), .val (.int .u8 ((0 : Nat) : Int)), .val (.int .u8 ((0 : Nat) : Int)), .val (.int .u8 ((0 : Nat) : Int)), .val (.int .u8 ((0 : Nat) : Int)), .val (.int .u8 ((0 : Nat) : Int)), .val (.int .u8 ((0 : Nat) : Int)), .val (.int .u8 ((0 : Nat) : Int)), .val (.int .u8 ((0 : Nat) : Int)), .val (.int .u8 ((0 : Nat) : Int)), .val (.int .u8 ((0 : Nat) : Int)), .val (.int .u8 ((0 : Nat) : Int))]) (.t 56)), none⟩] [0, 3])
 (.seq (.ops [mv_ 57 0,
  mv_ 58 3,
  po_ 59 (.slV 20 (.t 57) none (some (.t 58))),
  mv_ 2 59] [2])
 (.ret))
def AuN : AsQ := .seq (.seq (.ops [po_ 5 (.mov (ci_ 1))] [0, 3, 4, 5])
 AuK)
 AuR
def AuE : AsQ := .seq (.ops [mv_ 26 0,
  mv_ 27 3,
  po_ 28 (.slV 20 (.t 26) (some (.t 27)) none),
  mv_ 4 28] [0, 3, 4])
 AuN
def AuQ : AsQ := .cond (.t 25)
 AuE
 (.skip)
def AuO : AsQ := .ops [mv_ 14 3,
  po_ 15 (.bin 3 .add (.t 14) (ci_ 1)),
  mv_ 3 15] [0, 3]
def Auu : AsQ := .seq (.block 1 (.seq (.draw 5 [mv_ 16 0,
  mv_ 17 3,
  po_ 18 (.idxA 20 (.t 16) (.t 17)),
  po_ 19 (.load true 20 (.t 18)),
  mv_ 20 0,
  mv_ 21 3,
  po_ 22 (.bin 3 .sub (.t 21) (ci_ 1)),
  po_ 23 (.idxA 20 (.t 20) (.t 22)),
  po_ 24 (.load true 20 (.t 23)),
  po_ 25 (.gen (.eqA 20 false) [.t 19, .t 24])] [0, 3, 25])
 AuQ))
 AuO
def Aux : AsQ := .seq (.seq (.ops [mv_ 10 3,
  mv_ 11 0,
  po_ 12 (.lenV (.t 11)),
  po_ 13 (.bin 3 .lss (.t 10) (.t 12))] [0, 3, 13])
 (.cond (.t 13)
 (.skip)
 (.exit 0)))
 Auu
def Auv : AsQ := .block 0 (.loop [0, 3] Aux)
def Auy : AsQ := .seq (.ops [mv_ 60 0,
  mv_ 2 60] [2])
 (.ret)
def Auw : AsQ := .seq (.seq (.ops [po_ 3 (.mov (ci_ 1))] [0, 3])
 Auv)
 Auy
def Auz : AsQ := .seq (.seq (.ops [mv_ 6 0,
  po_ 7 (.lenV (.t 6)),
  po_ 8 (.bin 3 .lss (.t 7) (ci_ 2))] [0, 8])
 (.cond (.t 8)
 (.seq (.ops [mv_ 9 0,
   mv_ 2 9] [2])
  (.ret))
 (.skip)))
 Auw
def Au7 : AsQ := .seq (.ops [po_ 2 (.mov (.c (.slice none 0 0)))] [0])
 Auz
def Au6 : List VR := [.tmp 2]
theorem Aw9 : Tryd.f48.body.bind (trC Tryd.prog Tryd.f48.ntmps) = some (er Au7) := by kernel_rfl
theorem AwY : trR Tryd.prog Tryd.f48.results.toList = some Au6 := by kernel_rfl
def AvP := AsN AuF.eq_1
def AvS := AsN AuJ.eq_1
def AvX := AsN AuM.eq_1
def AvV := AsN AuK.eq_1
def Av2 := AsN AuR.eq_1
def AvQ := AsN AuN.eq_1
def AvZ := AsN AuE.eq_1
def AvY := AsN AuQ.eq_1
def Av5 := AsN AuO.eq_1
def AvG := AsN Auu.eq_1
def AvK := AsN Aux.eq_1
def AvJ := AsN Auv.eq_1
def AvI := AsN Auy.eq_1
def AvF := AsN Auw.eq_1
def AvL := AsN Auz.eq_1
def AwE := AsN Au7.eq_1
theorem AwD {K : TV → Prop} {e : Env} {H : List Ob} : res Au6 e H K = res [.tmp 2] e H K := AsM rfl
def As4 := (And.intro (And.intro (And.intro (And.intro (And.intro @AvP @AvS) (And.intro @AvX @AvV)) (And.intro (And.intro @Av2 @AvQ) (And.intro @AvZ @AvY))) (And.intro (And.intro (And.intro @Av5 @AvG) (And.intro @AvK @AvJ)) (And.intro (And.intro @AvI @AvF) (And.intro @AvL @AwE)))) @AwD)
def Au2 := Awq 61 Tryd.func48 Aw9 AwY rfl

def Aud : AsQ := .seq (.ops [mv_ 30 0,
  mv_ 31 5,
  po_ 32 (.load true 20 (.t 7)),
  po_ 33 (.idxA 20 (.t 30) (.t 31)),
  ⟨none, .s (.store 20 (.t 33) (.t 32)), none⟩] [0, 1, 5, 6])
 (.ops [mv_ 34 5,
  po_ 35 (.bin 3 .add (.t 34) (ci_ 1)),
  mv_ 5 35] [0, 1, 5, 6])
def Aug : AsQ := .seq (.block 1 (.seq (.ops [mv_ 22 0,
  mv_ 23 6,
  po_ 24 (.idxA 20 (.t 22) (.t 23)),
  po_ 25 (.load true 20 (.t 24)),
  so_ 7 (.alloc (.arr 20 1 [.val (.int .u8 ((0 : Nat) : Int)), .val (.int .u8 ((0 : Nat) : Int)), .val (.int .u8 ((0 : Nat) : Int)), .val (.int .u8 ((0 : Nat) : Int)), .val (.int .u8 ((0 : Nat) : Int)), .val (.int .u8 ((0 : Nat) : Int)), .val (.int .u8 ((0 : Nat) : Int)), .val (.int .u8 ((0 : Nat) : Int)), .val (.int .u8 ((0 : Nat) : Int)), .val (.int .u8 ((0 : Nat) : Int)), .val (.int .u8 ((0 : Nat) : Int)), .val (.int .u8 ((0 : Nat) : Int)), .val (.int .u8 ((0 : Nat) : Int)), .val (.int .u8 ((0 : Nat) : Int)), .val (.int .u8 ((0 : Nat) : Int)), .val (.int .u8 ((0 : Nat) : Int)), .val (.int .u8 ((0 : Nat) : Int)), .val (.int .u8 ((0 : Nat) : Int)), .val (.int .u8 ((0 : Nat) : Int)), .val (.int .u8 ((0 : Nat) : Int))])),
  ⟨none, .s (.store 20 (.t 7) (.t 25)), none⟩] [0, 1, 5, 6, 7])
 (.seq (.ops [mv_ 26 1,
  po_ 27 (.load true 20 (.t 7)),
  so_ 28 (.callv (.t 26) [.t 27]),
  po_ 29 (.un .not (.t 28))] [0, 1, 5, 6, 7, 29])
 (.cond (.t 29)
 Aud
 (.skip)))))
 (.ops [mv_ 20 6,
  po_ 21 (.bin 3 .add (.t 20) (ci_ 1)),
  mv_ 6 21] [0, 1, 5, 6])
def Auf : AsQ := .seq (.seq (.ops [mv_ 16 6,
  mv_ 17 0,
  po_ 18 (.lenV (.t 17)),
  po_ 19 (.bin 3 .lss (.t 16) (.t 18))] [0, 1, 5, 6, 19])
 (.cond (.t 19)
 (.skip)
 (.exit 0)))
 Aug
def Aub : AsQ := .block 0 (.loop [0, 1, 5, 6] Auf)
def Aue : AsQ := .seq (.ops [mv_ 36 0,
  mv_ 37 5,
  po_ 38 (.slV 20 (.t 36) (some (.t 37)) none),
  ⟨none, .s (.clrS 20 (.arr 20 1 [.val (.int .u8 ((0 : Nat) : Int)), .val (.int .u8 ((0 : Nat) : Int)), .val (.int .u8 ((0 : Nat) : Int)), .val (.int .u8 ((0 : Nat) : Int)), .val (.int .u8 ((0 : Nat) : Int)), .val (.int .u8 ((0 : Nat) : Int)), .val (.int .u8 ((0 : Nat) : Int)), .val (.int .u8 ((0 : Nat) : Int)), .val (.int .u8 ((0 : Nat) : Int)), .val (.int .u8 ((0 : Nat) : Int)), .val (.int .u8 ((0 : Nat) : Int)), .val (.int .u8 ((0 : Nat) : Int)), .val (.int .u8 ((0 : Nat) : Int)), .val (.int .u8 ((0 : Nat) : Int)), .val (.int .u8 ((0 : Nat) : Int)), .val (.int .u8 ((0 : Nat) : Int)), .val (.int .u8 ((0 : Nat) : Int)), .val (.int .u8 ((0 : Nat) : Int)), .val (.int .u8 ((0 : Nat) : Int)), .val (.int .u8 ((0 : Nat) : Int))]) (.t 38)), none⟩] [0, 5])
 (.seq (.ops [mv_ 39 0,
  mv_ 40 5,
  po_ 41 (.slV 20 (.t 39) none (some (.t 40))),
  mv_ 4 41] [4])
 (.ret))
def Aui : AsQ := .seq (.seq (.ops [mv_ 14 5,
  po_ 15 (.bin 3 .add (.t 14) (ci_ 1)),
  mv_ 6 15] [0, 1, 5, 6])
 Aub)
 Aue
def Auc : AsQ := .seq (.seq (.ops [mv_ 11 5,
  po_ 12 (.bin 3 .eql (.t 11) (.c (.int .i64 (-1))))] [0, 1, 5, 12])
 (.cond (.t 12)
 (.seq (.ops [mv_ 13 0,
   mv_ 4 13] [4])
  (.ret))
 (.skip)))
 Aui
def Auh : AsQ := .seq (.ops [mv_ 8 0,
  mv_ 9 1,
  so_ 10 (.call 58 [.t 8, .t 9]),
  mv_ 5 10] [0, 1, 5])
 Auc
def AuS : AsQ := .seq (.ops [po_ 4 (.mov (.c (.slice none 0 0)))] [0, 1])
 Auh
def AuT : List VR := [.tmp 4]
theorem Awx : Tryd.f49.body.bind (trC Tryd.prog Tryd.f49.ntmps) = some (er AuS) := by kernel_rfl
theorem Awz : trR Tryd.prog Tryd.f49.results.toList = some AuT := by kernel_rfl
def Avq := AsN Aud.eq_1
def Avo := AsN Aug.eq_1
def Avp := AsN Auf.eq_1
def Avv := AsN Aub.eq_1
def Avr := AsN Aue.eq_1
def Avu := AsN Aui.eq_1
def Avs := AsN Auc.eq_1
def Avt := AsN Auh.eq_1
def AvR := AsN AuS.eq_1
theorem Av0 {K : TV → Prop} {e : Env} {H : List Ob} : res AuT e H K = res [.tmp 4] e H K := AsM rfl
def As2 := (And.intro (And.intro (And.intro (And.intro @Avq @Avo) (And.intro @Avp @Avv)) (And.intro (And.intro @Avr @Avu) (And.intro @Avs @Avt))) (And.intro @AvR @Av0))
def AuA := Awq 42 Tryd.func49 Awx Awz rfl

def Auo : AsQ := .seq (.ops [po_ 4 (.mov (.c (.bool false)))] [0, 1])
 (.seq (.ops [mv_ 5 0,
  mv_ 6 1,
  so_ 7 (.call 58 [.t 5, .t 6]),
  po_ 8 (.bin 3 .geq (.t 7) (ci_ 0)),
  mv_ 4 8] [4])
 (.ret))
def Aul : List VR := [.tmp 4]
theorem AvW : Tryd.f50.body.bind (trC Tryd.prog Tryd.f50.ntmps) = some (er Auo) := by kernel_rfl
theorem Av4 : trR Tryd.prog Tryd.f50.results.toList = some Aul := by kernel_rfl
def AvA := AsN Auo.eq_1
theorem AvD {K : TV → Prop} {e : Env} {H : List Ob} : res Aul e H K = res [.tmp 4] e H K := AsM rfl
def AtF := (And.intro @AvA @AvD)
def AvM := Awq 9 Tryd.func50 AvW Av4 rfl

def Aup : AsQ := .seq (.ops [po_ 9 (.bin 3 .lss (.t 8) (.t 7))] [0, 1, 7, 8, 9])
 (.seq (.cond (.t 9)
 (.skip)
 (.exit 0))
 (.seq (.block 1 (.seq (.ops [mv_ 10 8,
  mv_ 5 10] [0, 1, 5, 7, 8])
 (.seq (.ops [mv_ 11 1,
  mv_ 12 0,
  mv_ 13 5,
  po_ 14 (.idxA 20 (.t 12) (.t 13)),
  po_ 15 (.load true 20 (.t 14)),
  so_ 16 (.callv (.t 11) [.t 15])] [0, 1, 5, 7, 8, 16])
 (.cond (.t 16)
 (.seq (.ops [mv_ 17 5,
   mv_ 4 17] [4])
  (.ret))
 (.skip)))))
 (.ops [po_ 18 (.bin 3 .add (.t 8) (ci_ 1)),
  mv_ 8 18] [0, 1, 7, 8])))
def Auq : AsQ := .block 0 (.loop [0, 1, 7, 8] Aup)
def Auk : AsQ := .seq (.ops [po_ 4 (.mov (.c (.int .i64 (-1))))] [4])
 (.ret)
def Aur : AsQ := .seq (.seq (.ops [mv_ 6 0,
  po_ 7 (.lenV (.t 6)),
  po_ 8 (.mov (ci_ 0))] [0, 1, 7, 8])
 Auq)
 Auk
def AuY : AsQ := .seq (.ops [po_ 4 (.mov (ci_ 0))] [0, 1])
 Aur
def AuW : List VR := [.tmp 4]
theorem AwC : Tryd.f58.body.bind (trC Tryd.prog Tryd.f58.ntmps) = some (er AuY) := by kernel_rfl
theorem AwF : trR Tryd.prog Tryd.f58.results.toList = some AuW := by kernel_rfl
def AvB := AsN Aup.eq_1
def AvC := AsN Auq.eq_1
def Avx := AsN Auk.eq_1
def Avw := AsN Aur.eq_1
def Awc := AsN AuY.eq_1
theorem Awd {K : TV → Prop} {e : Env} {H : List Ob} : res AuW e H K = res [.tmp 4] e H K := AsM rfl
def AsW := (And.intro (And.intro (And.intro @AvB @AvC) (And.intro @Avx @Avw)) (And.intro @Awc @Awd))
def AtU := Awq 19 Tryd.func58 AwC AwF rfl

end Go.Proofs.YtingoaihnlhiaaaDoor


namespace Go.Proofs.YtingoaihnlhiaaaDoor
open Go.RowKit
variable [AtT]
set_option linter.unusedSectionVars false
set_option linter.unusedVariables false
set_option linter.unusedSimpArgs false

/-- Is it the id of a node? -/
def AJA (l : List Nd) (x : List UInt8) : Bool := (As8 l).contains x
theorem Aut {l : List Nd} {x : List UInt8} : AJA l x = true ↔ x ∈ As8 l := by simp [AJA]
theorem Atm {α : Type} {H : List α} {i : Nat} {o : α} (h : H[i]? = some o) : i < H.length := (List.getElem?_eq_some_iff.1 h).1
theorem ABt {l : List Nd} (hn : (As8 l).Nodup) (x : List UInt8) : (Aw0 x (Att l)).isSome = AJA l x := by
 by_cases hx : x ∈ As8 l
 ·obtain ⟨m, hm, rfl⟩ := List.mem_map.1 hx
  rw [AyA hn hm, (Aut).2 hx]; rfl
 ·rw [AG6 hx hn]
  cases h : AJA l x with
  | false => rfl
  | true => exact absurd (Aut.1 h) hx

theorem AVr {l : List Nd} (hn : (As8 l).Nodup) {H : List Ob} {c gi mi : Nat} (hc : H[c]? = some (.obj 0 (.op gi 0 []))) (hg : H[gi]? = some (.obj 0 (.agg [.mp mi 0, .val (.map none)]))) (hm : H[mi]? = some (.mpo (.arr 20) (Att l))) (x : List UInt8) {K : TV → List Ob → Prop}
  (hK : ∀ T, K (tb (!AJA l x)) (H ++ T)) : As1 Tryd.prog 51 [idT x, .op c 0 []] H K := by
 have h1 := Atm hc
 have h2 := Atm hg
 have h3 := Atm hm
 have h4 := ABt hn x
 refine AAC (by simp) ?_
 cases hl : Aw0 x (Att l) with
 | none =>
  rw [hl] at h4
  simp -dsimp (disch := first | assumption | omega | (simp only [AsP]; done) | (simp only [AsP]; omega)) only [↓AsR, AsO, AsT, AsU, eq_self, forall_const, Nat.reduceLT, Nat.reduceEqDiff, Nat.reduceSub, Nat.reduceMul, Nat.reduceMod, Nat.reduceDiv, Nat.reducePow, UInt8.reduceToNat, Int.reduceEq, Int.reduceLT, Int.reduceLE, ↓reduceIte, Nat.reduceAdd, Int.reduceToNat, reduceCtorEq, Nat.reduceLeDiff, ↓Axb, hc, hg, hm, As9, hl]
  rw [← h4] at hK
  simp only [List.append_assoc]
  exact hK _
 | some y =>
  rw [hl] at h4
  have hy : ∃ n : Nd, y = ndT n := by
   by_cases hx : x ∈ As8 l
   ·obtain ⟨m, hm, rfl⟩ := List.mem_map.1 hx
    rw [AyA hn hm] at hl; cases hl; exact ⟨m, rfl⟩
   ·rw [AG6 hx hn] at hl; cases hl
  obtain ⟨n, rfl⟩ := hy
  simp -dsimp (disch := first | assumption | omega | (simp only [AsP]; done) | (simp only [AsP]; omega)) only [↓AsR, AsO, AsT, AsU, eq_self, forall_const, Nat.reduceLT, Nat.reduceEqDiff, Nat.reduceSub, Nat.reduceMul, Nat.reduceMod, Nat.reduceDiv, Nat.reducePow, UInt8.reduceToNat, Int.reduceEq, Int.reduceLT, Int.reduceLE, ↓reduceIte, Nat.reduceAdd, Int.reduceToNat, reduceCtorEq, Nat.reduceLeDiff, ↓Axb, hc, hg, hm, As9, hl, AtA]
  rw [← h4] at hK
  simp only [List.append_assoc]
  exact hK _

theorem AIe {α : Type} {ids : List α} {p : α → Bool} {i : Nat} {x : α} (hg : ids[i]? = some x) (h : ∀ y ∈ ids.take i, p y = false) (hp : p x = true) : ids.findIdx p = i ∧ ids.any p = true := by
 obtain ⟨hi, rfl⟩ := List.getElem?_eq_some_iff.1 hg
 refine ⟨(List.findIdx_eq hi).2 ⟨hp, fun j hj => h _ ?_⟩, List.any_eq_true.2 ⟨_, List.getElem_mem hi, hp⟩⟩
 rw [List.mem_take_iff_getElem]
 exact ⟨j, by omega, rfl⟩
/-- slices.IndexFunc, slices.ContainsFunc: the function is asked of one behind the other; it leaves what was there aS it was. -/
theorem AMM {ids : List (List UInt8)} (hlen : ids.length ≤ 100000) {p : List UInt8 → Bool} {H : List Ob} {g : FuncId} {a caps : List TV} (hgo : AEh Tryd.prog g = true) (hp : ∀ x ∈ ids, ∀ T K, (∀ T', K (tb (p x)) (H ++ T ++ T')) → As1 Tryd.prog g (a ++ [idT x] ++ caps) (H ++ T) K) {K : TV → List Ob → Prop}
  (hK : ∀ T, K (i64 (if ids.any p then ((ids.findIdx p : Nat) : Int) else -1)) (H ++ T)) : As1 Tryd.prog 58 [.sl 20 (ids.map idT), .fn (.func g) a caps] H K := by
 refine AtU (by simp) ?_
 simp -dsimp (disch := first | assumption | omega) only [↓AsR, AsO, AsT, AsU, eq_self, forall_const, Nat.reduceLT, Nat.reduceEqDiff, Nat.reduceSub, Nat.reduceMul, Nat.reduceMod, Nat.reduceDiv, Nat.reducePow, UInt8.reduceToNat, Int.reduceEq, Int.reduceLT, Int.reduceLE, ↓reduceIte, Nat.reduceAdd, Int.reduceToNat, reduceCtorEq, Nat.reduceLeDiff, ↓AsW]
 refine At5 (fun q e H' => ∃ (i : Nat) (T : List Ob), q = ids.length - i ∧ i ≤ ids.length ∧ (∀ x ∈ ids.take i, p x = false) ∧ e = [(0, .sl 20 (ids.map idT)), (1, .fn (.func g) a caps), (7, i64 (ids.length : Int)), (8, i64 (i : Int))] ∧ H' = H ++ T) ids.length ?_ ?_
 ·exact ⟨0, [], by simp, by simp, by simp, rfl, by simp⟩
 ·rintro q e H' ⟨i, T, rfl, hi, hno, rfl, rfl⟩
  by_cases h : i < ids.length
  ·have hg : ids[i]? = some ids[i] := List.getElem?_eq_getElem h
   have hsucc := List.take_succ_eq_append_getElem h
   have hpx := hp ids[i] (List.getElem_mem h) T
   generalize ids[i] = x at *
   simp -dsimp (disch := first | assumption | omega | (simp only [AsP]; done) | (simp only [AsP]; omega)) only [↓AsR, AsO, AsT, AsU, eq_self, forall_const, Nat.reduceLT, Nat.reduceEqDiff, Nat.reduceSub, Nat.reduceMul, Nat.reduceMod, Nat.reduceDiv, Nat.reducePow, UInt8.reduceToNat, Int.reduceEq, Int.reduceLT, Int.reduceLE, ↓reduceIte, Nat.reduceAdd, Int.reduceToNat, reduceCtorEq, Nat.reduceLeDiff, ↓AsW, hg, hgo, Atl, Atr, Ata]
   refine Aw2 (hpx _ fun T' => ?_)
   by_cases hpt : p x = true
   ·rw [hpt]
    simp -dsimp (disch := first | assumption | omega | (simp only [AsP]; done) | (simp only [AsP]; omega)) only [↓AsR, AsO, AsT, AsU, eq_self, forall_const, Nat.reduceLT, Nat.reduceEqDiff, Nat.reduceSub, Nat.reduceMul, Nat.reduceMod, Nat.reduceDiv, Nat.reducePow, UInt8.reduceToNat, Int.reduceEq, Int.reduceLT, Int.reduceLE, ↓reduceIte, Nat.reduceAdd, Int.reduceToNat, reduceCtorEq, Nat.reduceLeDiff, ↓AsW]
    obtain ⟨e1, e2⟩ := AIe hg hno hpt
    rw [if_pos e2, e1] at hK
    simp only [List.append_assoc]
    exact hK _
   ·have hpf : p x = false := by simpa using hpt
    rw [hpf]
    simp -dsimp (disch := first | assumption | omega | (simp only [AsP]; done) | (simp only [AsP]; omega)) only [↓AsR, AsO, AsT, AsU, eq_self, forall_const, Nat.reduceLT, Nat.reduceEqDiff, Nat.reduceSub, Nat.reduceMul, Nat.reduceMod, Nat.reduceDiv, Nat.reducePow, UInt8.reduceToNat, Int.reduceEq, Int.reduceLT, Int.reduceLE, ↓reduceIte, Nat.reduceAdd, Int.reduceToNat, reduceCtorEq, Nat.reduceLeDiff, ↓AsW]
    refine Atd (ids.length - (i + 1)) (by omega) (by simp) ⟨i + 1, T ++ T', rfl, by omega, fun y hy => ?_, by simp [forget, get], by simp⟩
    rw [hsucc, List.mem_append, List.mem_singleton] at hy
    rcases hy with hy | rfl
    ·exact hno y hy
    ·exact hpf
  ·have hi2 : i = ids.length := by omega
   subst hi2
   rw [List.take_length] at hno
   simp -dsimp (disch := first | assumption | omega | (simp only [AsP]; done) | (simp only [AsP]; omega)) only [↓AsR, AsO, AsT, AsU, eq_self, forall_const, Nat.reduceLT, Nat.reduceEqDiff, Nat.reduceSub, Nat.reduceMul, Nat.reduceMod, Nat.reduceDiv, Nat.reducePow, UInt8.reduceToNat, Int.reduceEq, Int.reduceLT, Int.reduceLE, ↓reduceIte, Nat.reduceAdd, Int.reduceToNat, reduceCtorEq, Nat.reduceLeDiff, ↓AsW]
   have hany : ¬ ids.any p = true := by
    rw [List.any_eq_true]
    rintro ⟨y, hy, h⟩
    rw [hno y hy] at h; cases h
   rw [if_neg hany] at hK
   exact hK _
theorem AIL {ids : List (List UInt8)} (hlen : ids.length ≤ 100000) {p : List UInt8 → Bool} {H : List Ob} {g : FuncId} {a caps : List TV} (hnt : AyR (a ++ caps)) (hgo : AEh Tryd.prog g = true) (hp : ∀ x ∈ ids, ∀ T K, (∀ T', K (tb (p x)) (H ++ T ++ T')) → As1 Tryd.prog g (a ++ [idT x] ++ caps) (H ++ T) K) {K : TV → List Ob → Prop}
  (hK : ∀ T, K (tb (ids.any p)) (H ++ T)) : As1 Tryd.prog 50 [.sl 20 (ids.map idT), .fn (.func g) a caps] H K := by
 refine AvM (by simp) ?_
 simp -dsimp (disch := first | assumption | omega | (simp only [AsP]; done) | (simp only [AsP]; omega)) only [↓AsR, AsO, AsT, AsU, eq_self, forall_const, Nat.reduceLT, Nat.reduceEqDiff, Nat.reduceSub, Nat.reduceMul, Nat.reduceMod, Nat.reduceDiv, Nat.reducePow, UInt8.reduceToNat, Int.reduceEq, Int.reduceLT, Int.reduceLE, ↓reduceIte, Nat.reduceAdd, Int.reduceToNat, reduceCtorEq, Nat.reduceLeDiff, ↓AtF]
 refine Aw2 (AMM hlen hgo hp fun T => ?_)
 by_cases h : ids.any p = true
 ·rw [if_pos h]
  rw [h] at hK
  simp -dsimp (disch := first | assumption | omega | (simp only [AsP]; done) | (simp only [AsP]; omega)) only [↓AsR, AsO, AsT, AsU, eq_self, forall_const, Nat.reduceLT, Nat.reduceEqDiff, Nat.reduceSub, Nat.reduceMul, Nat.reduceMod, Nat.reduceDiv, Nat.reducePow, UInt8.reduceToNat, Int.reduceEq, Int.reduceLT, Int.reduceLE, ↓reduceIte, Nat.reduceAdd, Int.reduceToNat, reduceCtorEq, Nat.reduceLeDiff, ↓AtF]
  exact hK _
 ·rw [if_neg h]
  have h' : ids.any p = false := by simpa using h
  rw [h'] at hK
  simp -dsimp (disch := first | assumption | omega | (simp only [AsP]; done) | (simp only [AsP]; omega)) only [↓AsR, AsO, AsT, AsU, eq_self, forall_const, Nat.reduceLT, Nat.reduceEqDiff, Nat.reduceSub, Nat.reduceMul, Nat.reduceMod, Nat.reduceDiv, Nat.reducePow, UInt8.reduceToNat, Int.reduceEq, Int.reduceLT, Int.reduceLE, ↓reduceIte, Nat.reduceAdd, Int.reduceToNat, reduceCtorEq, Nat.reduceLeDiff, ↓AtF]
  exact hK _
theorem AXd {l : List Nd} (hn : (As8 l).Nodup) {ids : List (List UInt8)} (hlen : ids.length ≤ 100000) {H : List Ob} {gi mi : Nat} (hg : H[gi]? = some (.obj 0 (.agg [.mp mi 0, .val (.map none)]))) (hm : H[mi]? = some (.mpo (.arr 20) (Att l))) {K : TV → List Ob → Prop}
  (hK : ∀ T, K (tb (ids.all (AJA l))) (H ++ T)) : As1 Tryd.prog 36 [.op gi 0 [], .sl 20 (ids.map idT)] H K := by
 have h2 := Atm hg
 have h3 := Atm hm
 refine AB3 (by simp) ?_
 simp -dsimp (disch := first | assumption | omega | (simp only [AsP]; done) | (simp only [AsP]; omega)) only [↓AsR, AsO, AsT, AsU, eq_self, forall_const, Nat.reduceLT, Nat.reduceEqDiff, Nat.reduceSub, Nat.reduceMul, Nat.reduceMod, Nat.reduceDiv, Nat.reducePow, UInt8.reduceToNat, Int.reduceEq, Int.reduceLT, Int.reduceLE, ↓reduceIte, Nat.reduceAdd, Int.reduceToNat, reduceCtorEq, Nat.reduceLeDiff, ↓AxP]
 refine Aw2 (AIL (p := fun x => !AJA l x) hlen (by simp [AyR, At1]) (by kernel_rfl) (fun x hx T K hK => ?_) fun T => ?_)
 ·refine AVr (l := l) (gi := gi) (mi := mi) hn ?_ ?_ ?_ x fun T' => hK T'
  ·rw [AwG (by simp)]; exact ABE rfl
  ·rw [List.append_assoc, AwG h2]; exact hg
  ·rw [List.append_assoc, AwG h3]; exact hm
 ·simp -dsimp (disch := first | assumption | omega | (simp only [AsP]; done) | (simp only [AsP]; omega)) only [↓AsR, AsO, AsT, AsU, eq_self, forall_const, Nat.reduceLT, Nat.reduceEqDiff, Nat.reduceSub, Nat.reduceMul, Nat.reduceMod, Nat.reduceDiv, Nat.reducePow, UInt8.reduceToNat, Int.reduceEq, Int.reduceLT, Int.reduceLE, ↓reduceIte, Nat.reduceAdd, Int.reduceToNat, reduceCtorEq, Nat.reduceLeDiff, ↓AxP]
  have e : (!ids.any fun x => !AJA l x) = ids.all (AJA l) := by rw [List.not_any_eq_all_not]; simp
  rw [e]
  simp only [List.append_assoc]
  exact hK _
/-- A graph in which ids are known. -/
def AAy (l : List Nd) (ids : List (List UInt8)) : Prop := GOk l ∧ ids.all (AJA l) = true
theorem ofV (l : List Nd) (hl : l.length ≤ 1000) (hp : ∀ n ∈ l, n.ps.length ≤ 1000) (ids : List (List UInt8)) (hlen : ids.length ≤ 100000) : As1 Tryd.prog 19 [.sl 22 (l.map ndT), .sl 20 (ids.map idT)] [] (fun x H' =>
  (AAy l ids → x = .tup [.op 1 0 [], .val .nilIface] ∧ ∃ T, H' = [.mpo (.arr 20) (Att l), AEu] ++ T) ∧ (¬ AAy l ids → ∃ g, x = .tup [g, .ifc 36 (i64 ((80 : Nat) : Int))])) := by
 refine AK8 (by simp) ?_
 simp -dsimp (disch := first | assumption | omega | (simp only [AsP]; done) | (simp only [AsP]; omega)) only [↓AsR, AsO, AsT, AsU, eq_self, forall_const, Nat.reduceLT, Nat.reduceEqDiff, Nat.reduceSub, Nat.reduceMul, Nat.reduceMod, Nat.reduceDiv, Nat.reducePow, UInt8.reduceToNat, Int.reduceEq, Int.reduceLT, Int.reduceLE, ↓reduceIte, Nat.reduceAdd, Int.reduceToNat, reduceCtorEq, Nat.reduceLeDiff, ↓Ays]
 refine Aw2 ((A0O l hl hp).mono ?_)
 rintro x H' ⟨h1, h2⟩
 by_cases hok : GOk l
 ·obtain ⟨rfl, es, o, rfl⟩ := h1 hok
  simp -dsimp (disch := first | assumption | omega | (simp only [AsP]; done) | (simp only [AsP]; omega)) only [↓AsR, AsO, AsT, AsU, eq_self, forall_const, Nat.reduceLT, Nat.reduceEqDiff, Nat.reduceSub, Nat.reduceMul, Nat.reduceMod, Nat.reduceDiv, Nat.reducePow, UInt8.reduceToNat, Int.reduceEq, Int.reduceLT, Int.reduceLE, ↓reduceIte, Nat.reduceAdd, Int.reduceToNat, reduceCtorEq, Nat.reduceLeDiff, ↓Ays]
  refine Aw2 (AXd hok.1.nodup hlen (H := [.mpo (.arr 20) (Att l), AEu, .mpo (.arr 20) es, o]) (mi := 0) rfl rfl fun T => ?_)
  by_cases hk : ids.all (AJA l) = true
  ·rw [hk]
   simp -dsimp (disch := first | assumption | omega | (simp only [AsP]; done) | (simp only [AsP]; omega)) only [↓AsR, AsO, AsT, AsU, eq_self, forall_const, Nat.reduceLT, Nat.reduceEqDiff, Nat.reduceSub, Nat.reduceMul, Nat.reduceMod, Nat.reduceDiv, Nat.reducePow, UInt8.reduceToNat, Int.reduceEq, Int.reduceLT, Int.reduceLE, ↓reduceIte, Nat.reduceAdd, Int.reduceToNat, reduceCtorEq, Nat.reduceLeDiff, ↓Ays]
   exact ⟨fun _ => ⟨_, rfl⟩, fun h => absurd ⟨hok, hk⟩ h⟩
  ·have hk' : ids.all (AJA l) = false := by simpa using hk
   rw [hk']
   simp -dsimp (disch := first | assumption | omega | (simp only [AsP]; done) | (simp only [AsP]; omega)) only [↓AsR, AsO, AsT, AsU, eq_self, forall_const, Nat.reduceLT, Nat.reduceEqDiff, Nat.reduceSub, Nat.reduceMul, Nat.reduceMod, Nat.reduceDiv, Nat.reducePow, UInt8.reduceToNat, Int.reduceEq, Int.reduceLT, Int.reduceLE, ↓reduceIte, Nat.reduceAdd, Int.reduceToNat, reduceCtorEq, Nat.reduceLeDiff, ↓Ays]
   exact ⟨fun h => absurd h.2 hk, fun _ => ⟨_, rfl⟩⟩
 ·obtain rfl := h2 hok
  simp -dsimp (disch := first | assumption | omega | (simp only [AsP]; done) | (simp only [AsP]; omega)) only [↓AsR, AsO, AsT, AsU, eq_self, forall_const, Nat.reduceLT, Nat.reduceEqDiff, Nat.reduceSub, Nat.reduceMul, Nat.reduceMod, Nat.reduceDiv, Nat.reducePow, UInt8.reduceToNat, Int.reduceEq, Int.reduceLT, Int.reduceLE, ↓reduceIte, Nat.reduceAdd, Int.reduceToNat, reduceCtorEq, Nat.reduceLeDiff, ↓Ays]
  exact ⟨fun h => absurd h.1 hok, fun _ => ⟨_, rfl⟩⟩
end Go.Proofs.YtingoaihnlhiaaaDoor


namespace Go.Proofs.YtingoaihnlhiaaaDoor
open Go.RowKit
variable [AtT]
set_option linter.unusedSectionVars false
set_option linter.unusedVariables false
set_option linter.unusedSimpArgs false

theorem ATl {ids : List (List UInt8)} (hlen : ids.length ≤ 100000) {H : List Ob} {K : TV → List Ob → Prop} (h0 : ids = [] → K (.val (.slice none 0 0)) H) (h1 : K (.os 20 H.length 1 [] 0 ids.length ids.length) (H ++ [.obj 1 (.arr ids.length 20 (ids.map idT))])) :
  As1 Tryd.prog 38 [.sl 20 (ids.map idT)] H K := by
 refine At6 (by simp) ?_
 by_cases hn : ids = []
 ·subst hn
  simp -dsimp (disch := first | assumption | omega | (simp only [AsP]; done) | (simp only [AsP]; omega)) only [↓AsR, AsO, AsT, AsU, eq_self, forall_const, Nat.reduceLT, Nat.reduceEqDiff, Nat.reduceSub, Nat.reduceMul, Nat.reduceMod, Nat.reduceDiv, Nat.reducePow, UInt8.reduceToNat, Int.reduceEq, Int.reduceLT, Int.reduceLE, ↓reduceIte, Nat.reduceAdd, Int.reduceToNat, reduceCtorEq, Nat.reduceLeDiff, ↓As5]
  refine AHq ?_ ?_
  ·simp -dsimp (disch := first | assumption | omega | (simp only [AsP]; done) | (simp only [AsP]; omega)) only [↓AsR, AsO, AsT, AsU, eq_self, forall_const, Nat.reduceLT, Nat.reduceEqDiff, Nat.reduceSub, Nat.reduceMul, Nat.reduceMod, Nat.reduceDiv, Nat.reducePow, UInt8.reduceToNat, Int.reduceEq, Int.reduceLT, Int.reduceLE, ↓reduceIte, Nat.reduceAdd, Int.reduceToNat, reduceCtorEq, Nat.reduceLeDiff, ↓As5]
   exact h0 rfl
  ·simp -dsimp (disch := first | assumption | omega | (simp only [AsP]; done) | (simp only [AsP]; omega)) only [↓AsR, AsO, AsT, AsU, eq_self, forall_const, Nat.reduceLT, Nat.reduceEqDiff, Nat.reduceSub, Nat.reduceMul, Nat.reduceMod, Nat.reduceDiv, Nat.reducePow, UInt8.reduceToNat, Int.reduceEq, Int.reduceLT, Int.reduceLE, ↓reduceIte, Nat.reduceAdd, Int.reduceToNat, reduceCtorEq, Nat.reduceLeDiff, ↓As5]
   simpa using h1
 ·have hn0 : ids.length ≠ 0 := fun e => hn (List.length_eq_zero_iff.1 e)
  simp -dsimp (disch := first | assumption | omega | (simp only [AsP]; done) | (simp only [AsP]; omega)) only [↓AsR, AsO, AsT, AsU, eq_self, forall_const, Nat.reduceLT, Nat.reduceEqDiff, Nat.reduceSub, Nat.reduceMul, Nat.reduceMod, Nat.reduceDiv, Nat.reducePow, UInt8.reduceToNat, Int.reduceEq, Int.reduceLT, Int.reduceLE, ↓reduceIte, Nat.reduceAdd, Int.reduceToNat, reduceCtorEq, Nat.reduceLeDiff, ↓As5]
  simpa using h1
theorem AYK {es : List (List UInt8 × TV)} {H : List Ob} {m : Nat} (hm : H[m]? = some (.mpo (.arr 20) es)) (hes : ∀ k y, Aw0 k es = some y → y = .agg []) (x : List UInt8) {K : TV → List Ob → Prop} (hK : ∀ T, K (tb ((es.map (·.1)).contains x)) (H ++ T)) :
  As1 Tryd.prog 25 [.mp m 0, idT x] H K := by
 have h3 := Atm hm
 refine AGA (by simp) ?_
 have hk : ∀ {es : List (List UInt8 × TV)}, (Aw0 x es).isSome = (es.map (·.1)).contains x := by
  intro es
  induction es with
  | nil => rw [Aw0]; rfl
  | cons e es ih =>
   obtain ⟨k, y⟩ := e
   rw [Aw0]
   by_cases h : k = x
   ·subst h; simp
   ·rw [if_neg h, ih]
    have : (x == k) = false := by simpa using fun e => h e.symm
    simp [this, List.contains_cons]
 rw [← hk] at hK
 cases hl : Aw0 x es with
 | none =>
  rw [hl] at hK
  simp -dsimp (disch := first | assumption | omega | (simp only [AsP]; done) | (simp only [AsP]; omega)) only [↓AsR, AsO, AsT, AsU, eq_self, forall_const, Nat.reduceLT, Nat.reduceEqDiff, Nat.reduceSub, Nat.reduceMul, Nat.reduceMod, Nat.reduceDiv, Nat.reducePow, UInt8.reduceToNat, Int.reduceEq, Int.reduceLT, Int.reduceLE, ↓reduceIte, Nat.reduceAdd, Int.reduceToNat, reduceCtorEq, Nat.reduceLeDiff, ↓AAK, hm, As9, hl]
  simp only [List.append_assoc]
  exact hK _
 | some y =>
  rw [hl] at hK
  have hy := hes x y hl
  subst hy
  simp -dsimp (disch := first | assumption | omega | (simp only [AsP]; done) | (simp only [AsP]; omega)) only [↓AsR, AsO, AsT, AsU, eq_self, forall_const, Nat.reduceLT, Nat.reduceEqDiff, Nat.reduceSub, Nat.reduceMul, Nat.reduceMod, Nat.reduceDiv, Nat.reducePow, UInt8.reduceToNat, Int.reduceEq, Int.reduceLT, Int.reduceLE, ↓reduceIte, Nat.reduceAdd, Int.reduceToNat, reduceCtorEq, Nat.reduceLeDiff, ↓AAK, hm, As9, hl]
  simp only [List.append_assoc]
  exact hK _
/-- A set of ids. -/
def AGf (seen : List (List UInt8)) : List (List UInt8 × TV) := seen.map fun k => (k, .agg [])
theorem ABa {seen : List (List UInt8)} : (AGf seen).map (·.1) = seen := by simp [AGf, Function.comp_def]
theorem AGI {seen : List (List UInt8)} : ∀ k y, Aw0 k (AGf seen) = some y → y = .agg [] := by
 intro k y
 induction seen with
 | nil => intro h; simp [AGf, Aw0] at h
 | cons a seen ih =>
  intro h
  rw [AGf, List.map_cons, Aw0] at h
  split at h
  ·cases h; rfl
  ·exact ih h
theorem ARz {seen : List (List UInt8)} {x : List UInt8} (h : ¬ x ∈ seen) : AwB x (.agg []) (AGf seen) = AGf (seen ++ [x]) := by
 rw [AIY (by rw [ABa]; exact h)]; simp [AGf]
theorem AHb {l : List Nd} (hok : GOk l) (hl : l.length ≤ 1000) (hp : ∀ n ∈ l, n.ps.length ≤ 1000) {S : List (List UInt8)} (hlen : S.length ≤ 100000) (hS : ∀ x ∈ S, x ∈ As8 l) {H : List Ob} {gi mi : Nat} (hg : H[gi]? = some (.obj 0 (.agg [.mp mi 0, .val (.map none)]))) (hm : H[mi]? = some (.mpo (.arr 20) (Att l))) {A : TV} (hA1 : At1 A = false)
  (hA : ∀ K : TV → List Ob → Prop, (S = [] → K (.val (.slice none 0 0)) (H ++ [.mpo (.arr 20) []])) → K (.os 20 (H ++ [Ob.mpo (.arr 20) []]).length 1 [] 0 S.length S.length) (H ++ [.mpo (.arr 20) []] ++ [.obj 1 (.arr S.length 20 (S.map idT))]) → As1 Tryd.prog 38 [A] (H ++ [.mpo (.arr 20) []]) K) {K : TV → List Ob → Prop}
  (hK : ∀ seen T, seen.Nodup → (∀ x, x ∈ seen ↔ Rc l S x) → K (.mp H.length 0) (H ++ .mpo (.arr 20) (AGf seen) :: T)) : As1 Tryd.prog 21 [.op gi 0 [], A] H K := by
 have h2 := Atm hg
 have h3 := Atm hm
 have loop : ∀ (e0 : Env) (H0 : List Ob) (v N cp : Nat) (cs : List TV), H0 = H ++ [.mpo (.arr 20) [], .obj v (.arr N 20 cs)] → forget [0, 5, 6] e0 = [(0, .op gi 0 []), (5, .mp H.length 0), (6, .os 20 (H.length + 1) v [] 0 S.length cp)] → cs.take S.length = S.map idT → S.length ≤ cs.length → S.length ≤ cp →
   vwp Tryd.prog (.loop [0, 5, 6] Avf) (Blk 0 (Thn Tryd.prog Ave (AJg AvT K))) e0 H0 := by
  intro e0 H0 v0 N0 cp0 cs0 hH0 he0 hcs0 hlc0 hcp0
  have hsum : ∀ m : List Nd, (∀ n ∈ m, n.ps.length ≤ 1000) → (m.map fun n => n.ps.length + 1).sum ≤ 1001 * m.length := by
   intro m
   induction m with
   | nil => simp
   | cons a m ih =>
    intro h
    have h1 := h a (by simp)
    have h2 := ih fun n hn => h n (by simp [hn])
    rw [List.map_cons, List.sum_cons, List.length_cons]; omega
  refine At5 (fun q e H' => ∃ (seen todo : List (List UInt8)) (v N cp : Nat) (cs : List TV) (T : List Ob), q = AF2.left l seen todo ∧ q ≤ 2000000 ∧ AF2 l S seen todo ∧ cs.take todo.length = todo.map idT ∧ todo.length ≤ cs.length ∧ todo.length ≤ cp ∧
   e = [(0, .op gi 0 []), (5, .mp H.length 0), (6, .os 20 (H.length + 1) v [] 0 todo.length cp)] ∧ H' = H ++ [.mpo (.arr 20) (AGf seen), .obj v (.arr N 20 cs)] ++ T) (AF2.left l [] S) ?_ ?_
  ·refine ⟨[], S, v0, N0, cp0, cs0, [], rfl, ?_, AF2.start, hcs0, hlc0, hcp0, he0, by rw [hH0]; simp [AGf]⟩
   have h1 := hsum l hp
   have h2 : (l.filter fun n => !([] : List (List UInt8)).contains n.id) = l := by simp
   unfold AF2.left
   rw [h2]; omega
  ·rintro q e H' ⟨seen, todo, v, N, cp, cs, T, rfl, hq, hs, hcs, hlc, hcp, rfl, rfl⟩
   rcases List.eq_nil_or_concat todo with rfl | ⟨t, x, rfl⟩
   ·simp -dsimp (disch := first | assumption | omega | (simp only [AsP]; done) | (simp only [AsP]; omega)) only [↓AsR, AsO, AsT, AsU, eq_self, forall_const, Nat.reduceLT, Nat.reduceEqDiff, Nat.reduceSub, Nat.reduceMul, Nat.reduceMod, Nat.reduceDiv, Nat.reducePow, UInt8.reduceToNat, Int.reduceEq, Int.reduceLT, Int.reduceLE, ↓reduceIte, Nat.reduceAdd, Int.reduceToNat, reduceCtorEq, Nat.reduceLeDiff, ↓AtG]
    rw [List.append_assoc]
    exact hK seen _ hs.nodup hs.done
   ·simp only [List.concat_eq_append, List.length_append, List.length_singleton, List.map_append, List.map_cons, List.map_nil] at *
    have hlast : cs[t.length]? = some (idT x) := by
     have h0 : (cs.take (t.length + 1))[t.length]? = some (idT x) := by
      rw [hcs, List.getElem?_append_right (by simp)]; simp
     rwa [List.getElem?_take, if_pos (by omega)] at h0
    have htk : cs.take t.length = t.map idT := by
     have h0 := congrArg (List.take t.length) hcs
     rw [List.take_take, Nat.min_eq_left (by omega)] at h0
     rw [h0, List.take_left' (by simp)]
    rw [As9] at hlast
    have hqt : t.length + 1 ≤ 2000000 := by
     have := hq
     unfold AF2.left at this
     rw [List.length_append, List.length_singleton] at this
     omega
    have hx : x ∈ As8 l := Rc.there hok.1 hS (hs.htodo x (by simp))
    obtain ⟨n, hn, rfl⟩ := List.mem_map.1 hx
    have hlook : Aw0 n.id (Att l) = some (ndT n) := AyA hok.1.nodup hn
    have hpn := hp n hn
    have hpo : pOf l n.id = n.ps := AIa hok.1.nodup hn
    simp -dsimp (disch := first | assumption | omega | (simp only [AsP]; done) | (simp only [AsP]; omega)) only [↓AsR, AsO, AsT, AsU, eq_self, forall_const, Nat.reduceLT, Nat.reduceEqDiff, Nat.reduceSub, Nat.reduceMul, Nat.reduceMod, Nat.reduceDiv, Nat.reducePow, UInt8.reduceToNat, Int.reduceEq, Int.reduceLT, Int.reduceLE, ↓reduceIte, Nat.reduceAdd, Int.reduceToNat, reduceCtorEq, Nat.reduceLeDiff, ↓AtG, hlast]
    rw [← As9]
    refine Aw2 (AYK (es := AGf seen) (by rw [List.append_assoc, List.append_assoc, ABE rfl]; rfl) AGI n.id fun T' => ?_)
    rw [ABa]
    by_cases hsn : n.id ∈ seen
    ·have hc : seen.contains n.id = true := by simpa using hsn
     rw [hc]
     simp -dsimp (disch := first | assumption | omega | (simp only [AsP]; done) | (simp only [AsP]; omega)) only [↓AsR, AsO, AsT, AsU, eq_self, forall_const, Nat.reduceLT, Nat.reduceEqDiff, Nat.reduceSub, Nat.reduceMul, Nat.reduceMod, Nat.reduceDiv, Nat.reducePow, UInt8.reduceToNat, Int.reduceEq, Int.reduceLT, Int.reduceLE, ↓reduceIte, Nat.reduceAdd, Int.reduceToNat, reduceCtorEq, Nat.reduceLeDiff, ↓AtG]
     have hlt : AF2.left l seen t < AF2.left l seen (t ++ [n.id]) := by unfold AF2.left; rw [List.length_append, List.length_singleton]; omega
     exact Atd (AF2.left l seen t) hlt (by rw [hH0]; simp) ⟨seen, t, v, N, cp, cs, T ++ [Ob.obj 0 (idT n.id)] ++ T', rfl, by omega, hs.skip hsn, htk, by omega, by omega, by simp [forget, get], by simp⟩
    ·have hc : seen.contains n.id = false := by simpa using hsn
     rw [hc]
     simp -dsimp (disch := first | assumption | omega | (simp only [AsP]; done) | (simp only [AsP]; omega)) only [↓AsR, AsO, AsT, AsU, eq_self, forall_const, Nat.reduceLT, Nat.reduceEqDiff, Nat.reduceSub, Nat.reduceMul, Nat.reduceMod, Nat.reduceDiv, Nat.reducePow, UInt8.reduceToNat, Int.reduceEq, Int.reduceLT, Int.reduceLE, ↓reduceIte, Nat.reduceAdd, Int.reduceToNat, reduceCtorEq, Nat.reduceLeDiff, ↓AtG, hlook, As9, AtA, hg, hm, ARz hsn]
     have hlt := AF2.le hok.1.nodup (todo := t) hn hsn
     have htake := hs.take hsn
     rw [hpo] at htake
     rw [htk, ← List.map_append]
     exact Atd _ hlt (by rw [hH0]; simp) ⟨seen ++ [n.id], t ++ n.ps, v + 1, t.length + n.ps.length, t.length + n.ps.length, (t ++ n.ps).map idT, T ++ [Ob.obj 0 (.arr 20 1 (n.id.map by8))] ++ T', rfl, by omega, htake, by rw [List.take_of_length_le (by simp)], by simp, by simp, by simp [forget, get], by simp⟩
 refine AB9 (by simp) ?_
 simp -dsimp (disch := first | assumption | omega | (simp only [AsP]; done) | (simp only [AsP]; omega)) only [↓AsR, AsO, AsT, AsU, eq_self, forall_const, Nat.reduceLT, Nat.reduceEqDiff, Nat.reduceSub, Nat.reduceMul, Nat.reduceMod, Nat.reduceDiv, Nat.reducePow, UInt8.reduceToNat, Int.reduceEq, Int.reduceLT, Int.reduceLE, ↓reduceIte, Nat.reduceAdd, Int.reduceToNat, reduceCtorEq, Nat.reduceLeDiff, ↓AtG, hA1]
 refine Aw2 (hA _ (fun hS0 => ?_) ?_)
 ·subst hS0
  simp -dsimp (disch := first | assumption | omega | (simp only [AsP]; done) | (simp only [AsP]; omega)) only [↓AsR, AsO, AsT, AsU, eq_self, forall_const, Nat.reduceLT, Nat.reduceEqDiff, Nat.reduceSub, Nat.reduceMul, Nat.reduceMod, Nat.reduceDiv, Nat.reducePow, UInt8.reduceToNat, Int.reduceEq, Int.reduceLT, Int.reduceLE, ↓reduceIte, Nat.reduceAdd, Int.reduceToNat, reduceCtorEq, Nat.reduceLeDiff, ↓AtG]
  exact loop _ _ 0 0 0 [] (by simp) (by simp [forget, get]) rfl (by simp) (by simp)
 ·simp -dsimp (disch := first | assumption | omega | (simp only [AsP]; done) | (simp only [AsP]; omega)) only [↓AsR, AsO, AsT, AsU, eq_self, forall_const, Nat.reduceLT, Nat.reduceEqDiff, Nat.reduceSub, Nat.reduceMul, Nat.reduceMod, Nat.reduceDiv, Nat.reducePow, UInt8.reduceToNat, Int.reduceEq, Int.reduceLT, Int.reduceLE, ↓reduceIte, Nat.reduceAdd, Int.reduceToNat, reduceCtorEq, Nat.reduceLeDiff, ↓AtG]
  exact loop _ _ 1 S.length S.length (S.map idT) (by simp) (by simp [forget, get]) (by rw [List.take_of_length_le (by simp)]) (by simp) (by simp)
theorem AXs {ids : List (List UInt8)} (hlen : ids.length ≤ 100000) (h0 : ids.length ≠ 0) {H : List Ob} {id ver N cp : Nat} (hid : H[id]? = some (.obj ver (.arr N 20 (ids.map idT)))) {K : TV → List Ob → Prop} (h1 : K (.os 20 H.length 1 [] 0 ids.length ids.length) (H ++ [.obj 1 (.arr ids.length 20 (ids.map idT))])) :
  As1 Tryd.prog 38 [.os 20 id ver [] 0 ids.length cp] H K := by
 have h3 := Atm hid
 refine At6 (by simp) ?_
 have htk : (ids.map idT).take ids.length = ids.map idT := List.take_of_length_le (by simp)
 simp -dsimp (disch := first | assumption | omega | (simp only [AsP]; done) | (simp only [AsP]; omega)) only [↓AsR, AsO, AsT, AsU, eq_self, forall_const, Nat.reduceLT, Nat.reduceEqDiff, Nat.reduceSub, Nat.reduceMul, Nat.reduceMod, Nat.reduceDiv, Nat.reducePow, UInt8.reduceToNat, Int.reduceEq, Int.reduceLT, Int.reduceLE, ↓reduceIte, Nat.reduceAdd, Int.reduceToNat, reduceCtorEq, Nat.reduceLeDiff, ↓As5, hid]
 simpa [htk] using h1
end Go.Proofs.YtingoaihnlhiaaaDoor


namespace Go.Proofs.YtingoaihnlhiaaaDoor
open Go.RowKit
variable [AtT]
set_option linter.unusedSectionVars false
set_option linter.unusedVariables false
set_option linter.unusedSimpArgs false

theorem AUY {n : Nd} {k : Nat} : shT k (ndT n) = ndT n := by rw [AtA]; simp [shT, shL]
theorem AMf {k : Nat} {q : List UInt8} {x : TV} (hx : shT k x = x) : ∀ {es : List (List UInt8 × TV)}, ALY k es = es → ALY k (AwB q x es) = AwB q x es
 | [], _ => by simp [AwB, ALY, hx]
 | e :: es, h => by
  rw [ALY] at h
  have h1 := (List.cons.inj h).1
  have h2 := (List.cons.inj h).2
  obtain ⟨a, y⟩ := e
  rw [AwB]
  split
  ·rw [ALY, hx, h2]
  ·rw [ALY, h1, AMf hx h2]
theorem AMH {k : Nat} : ∀ (l : List Nd), ALY k (Att l) = Att l := by
 refine AGE ?_ fun l n ih => ?_
 ·rw [Att, List.foldl_nil, ALY]
 ·rw [AxH]; exact AMf AUY ih
/-- of, among objects. -/
theorem ofH (l : List Nd) (hl : l.length ≤ 1000) (hp : ∀ n ∈ l, n.ps.length ≤ 1000) (ids : List (List UInt8)) (hlen : ids.length ≤ 100000) {H : List Ob} {K : TV → List Ob → Prop}
  (h1 : AAy l ids → ∀ T, K (.tup [.op (1 + H.length) 0 [], .val .nilIface]) (H ++ [.mpo (.arr 20) (Att l), .obj 0 (.agg [.mp (0 + H.length) 0, .val (.map none)])] ++ T))
  (h2 : ¬ AAy l ids → ∀ g H', K (.tup [g, .ifc 36 (i64 ((80 : Nat) : Int))]) H') : As1 Tryd.prog 19 [.sl 22 (l.map ndT), .sl 20 (ids.map idT)] H K := by
 refine (ofV l hl hp ids hlen).behind rfl ?_
 rintro x H' ⟨k1, k2⟩
 by_cases h : AAy l ids
 ·obtain ⟨rfl, T, rfl⟩ := k1 h
  have := h1 h (T.map (shO H.length))
  simpa [shT, shL, shO, AMH] using this
 ·obtain ⟨g, rfl⟩ := k2 h
  have := h2 h (shT H.length g) (H ++ H'.map (shO H.length))
  simpa [shT, shL] using this
noncomputable def dec (p : Prop) : Bool := @decide p (Classical.propDecidable p)
theorem ANf {p : Prop} (h : p) : dec p = true := by unfold dec; simpa using h
theorem ANy {p : Prop} (h : ¬ p) : dec p = false := by unfold dec; simpa using h
theorem ARA (l : List Nd) (hl : l.length ≤ 1000) (hp : ∀ n ∈ l, n.ps.length ≤ 1000) (a b : List UInt8) : Avh Tryd.prog 13 [.sl 22 (l.map ndT), idT a, idT b] (fun r =>
  (AAy l [a, b] → r = .tup [tb (dec (Rc l [a] b)), .val .nilIface]) ∧ (¬ AAy l [a, b] → r = .tup [tb false, .ifc 36 (i64 ((80 : Nat) : Int))])) := by
 refine As1.toPureV (AGv (by simp) ?_)
 simp -dsimp (disch := first | assumption | omega | (simp only [AsP]; done) | (simp only [AsP]; omega)) only [↓AsR, AsO, AsT, AsU, eq_self, forall_const, Nat.reduceLT, Nat.reduceEqDiff, Nat.reduceSub, Nat.reduceMul, Nat.reduceMod, Nat.reduceDiv, Nat.reducePow, UInt8.reduceToNat, Int.reduceEq, Int.reduceLT, Int.reduceLE, ↓reduceIte, Nat.reduceAdd, Int.reduceToNat, reduceCtorEq, Nat.reduceLeDiff, ↓Au4, As9]
 refine AHk (by rfl) (by rfl) (by simp) ?_
 simp -dsimp (disch := first | assumption | omega | (simp only [AsP]; done) | (simp only [AsP]; omega)) only [↓AsR, AsO, AsT, AsU, eq_self, forall_const, Nat.reduceLT, Nat.reduceEqDiff, Nat.reduceSub, Nat.reduceMul, Nat.reduceMod, Nat.reduceDiv, Nat.reducePow, UInt8.reduceToNat, Int.reduceEq, Int.reduceLT, Int.reduceLE, ↓reduceIte, Nat.reduceAdd, Int.reduceToNat, reduceCtorEq, Nat.reduceLeDiff, ↓Au4, AKN]
 refine Aw2 (show As1 _ _ [.sl 22 (l.map ndT), .sl 20 ([a, b].map idT)] _ _ from ofH l hl hp [a, b] (by simp) (fun hok T => ?_) (fun hno g H' => ?_))
 ·simp -dsimp (disch := first | assumption | omega | (simp only [AsP]; done) | (simp only [AsP]; omega)) only [↓AsR, AsO, AsT, AsU, eq_self, forall_const, Nat.reduceLT, Nat.reduceEqDiff, Nat.reduceSub, Nat.reduceMul, Nat.reduceMod, Nat.reduceDiv, Nat.reducePow, UInt8.reduceToNat, Int.reduceEq, Int.reduceLT, Int.reduceLE, ↓reduceIte, Nat.reduceAdd, Int.reduceToNat, reduceCtorEq, Nat.reduceLeDiff, ↓Au4]
  have hin : ∀ x ∈ [a], x ∈ As8 l := fun x hx => by
   rw [List.mem_singleton] at hx; subst hx
   have := List.all_eq_true.1 hok.2 x (by simp)
   exact Aut.1 this
  refine As1.callsP (AHb hok.1 hl hp (S := [a]) (by simp) hin (gi := 4) (mi := 3) rfl rfl rfl (fun K _ h1 => AXs (ids := [a]) (ver := 0) (N := 1) (by simp) (by simp) (by simp [As9]) h1) (fun seen T' hnd hmem => ⟨?_, ?_⟩))
  ·simp -dsimp (disch := first | assumption | omega | (simp only [AsP]; done) | (simp only [AsP]; omega)) only [↓AsR, AsO, AsT, AsU, eq_self, forall_const, Nat.reduceLT, Nat.reduceEqDiff, Nat.reduceSub, Nat.reduceMul, Nat.reduceMod, Nat.reduceDiv, Nat.reducePow, UInt8.reduceToNat, Int.reduceEq, Int.reduceLT, Int.reduceLE, ↓reduceIte, Nat.reduceAdd, Int.reduceToNat, reduceCtorEq, Nat.reduceLeDiff, ↓Au4]
   refine As1.callsP (AYK (es := AGf seen) (by simp) AGI b fun T2 => ⟨?_, ?_⟩)
   ·have hc : (seen.contains b) = dec (Rc l [a] b) := by
     by_cases h : Rc l [a] b
     ·rw [ANf h]; simpa using (hmem b).2 h
     ·rw [ANy h]; simpa using fun h2 => h ((hmem b).1 h2)
    rw [ABa, hc]
    simp -dsimp (disch := first | assumption | omega | (simp only [AsP]; done) | (simp only [AsP]; omega)) only [↓AsR, AsO, AsT, AsU, eq_self, forall_const, Nat.reduceLT, Nat.reduceEqDiff, Nat.reduceSub, Nat.reduceMul, Nat.reduceMod, Nat.reduceDiv, Nat.reducePow, UInt8.reduceToNat, Int.reduceEq, Int.reduceLT, Int.reduceLE, ↓reduceIte, Nat.reduceAdd, Int.reduceToNat, reduceCtorEq, Nat.reduceLeDiff, ↓Au4]
    exact ⟨fun _ => trivial, fun h => absurd hok h⟩
   ·change ADe [4, 5] _ _ _
    exact ABm rfl rfl (ABm rfl rfl AGC)
  ·change ADe [4, 5] _ _ _
   exact ABm rfl rfl (ABm rfl rfl AGC)
 ·simp -dsimp (disch := first | assumption | omega | (simp only [AsP]; done) | (simp only [AsP]; omega)) only [↓AsR, AsO, AsT, AsU, eq_self, forall_const, Nat.reduceLT, Nat.reduceEqDiff, Nat.reduceSub, Nat.reduceMul, Nat.reduceMod, Nat.reduceDiv, Nat.reducePow, UInt8.reduceToNat, Int.reduceEq, Int.reduceLT, Int.reduceLE, ↓reduceIte, Nat.reduceAdd, Int.reduceToNat, reduceCtorEq, Nat.reduceLeDiff, ↓Au4]
  exact ⟨fun h => absurd h hno, fun _ => trivial⟩
end Go.Proofs.YtingoaihnlhiaaaDoor


namespace Go.Proofs.YtingoaihnlhiaaaDoor
open Go.RowKit
variable [AtT]
set_option linter.unusedSectionVars false
set_option linter.unusedVariables false
set_option linter.unusedSimpArgs false

theorem AGS {l : List Nd} {x : List UInt8} (h : ¬ x ∈ As8 l) : fnd l x = -1 := by
 unfold fnd
 rw [if_neg]
 rintro ⟨n, hn, e⟩; exact h (e ▸ Ay2 hn)
theorem AKx (l : List Nd) (hl : l.length ≤ 1000) (hp : ∀ n ∈ l, n.ps.length ≤ 1000) (a b : List UInt8) : Avh Tryd.prog 14 [.sl 22 (l.map ndT), idT a, idT b] (fun r =>
  (AAy l [a, b] → r = .tup [tb (dec (Rc l [a] b)), i64 ((0 : Nat) : Int)]) ∧ (¬ AAy l [a, b] → r = .tup [tb false, i64 ((80 : Nat) : Int)])) := by
 refine As1.toPureV (AHj (by simp) ?_)
 simp -dsimp (disch := first | assumption | omega | (simp only [AsP]; done) | (simp only [AsP]; omega)) only [↓AsR, AsO, AsT, AsU, eq_self, forall_const, Nat.reduceLT, Nat.reduceEqDiff, Nat.reduceSub, Nat.reduceMul, Nat.reduceMod, Nat.reduceDiv, Nat.reducePow, UInt8.reduceToNat, Int.reduceEq, Int.reduceLT, Int.reduceLE, ↓reduceIte, Nat.reduceAdd, Int.reduceToNat, reduceCtorEq, Nat.reduceLeDiff, ↓AtO, As9]
 refine (AP6 l hl hp).calls rfl fun r hr => ?_
 subst hr
 by_cases hok : GOk l
 ·rw [AJu hok]
  simp -dsimp (disch := first | assumption | omega | (simp only [AsP]; done) | (simp only [AsP]; omega)) only [↓AsR, AsO, AsT, AsU, eq_self, forall_const, Nat.reduceLT, Nat.reduceEqDiff, Nat.reduceSub, Nat.reduceMul, Nat.reduceMod, Nat.reduceDiv, Nat.reducePow, UInt8.reduceToNat, Int.reduceEq, Int.reduceLT, Int.reduceLE, ↓reduceIte, Nat.reduceAdd, Int.reduceToNat, reduceCtorEq, Nat.reduceLeDiff, ↓AtO, As9]
  refine (AG4 l a (by omega)).calls rfl fun r hr => ?_
  subst hr
  by_cases ha : a ∈ As8 l
  case neg =>
   have hno : ¬ AAy l [a, b] := fun h => ha (Aut.1 (List.all_eq_true.1 h.2 a (by simp)))
   rw [AGS ha]
   simp -dsimp (disch := first | assumption | omega | (simp only [AsP]; done) | (simp only [AsP]; omega)) only [↓AsR, AsO, AsT, AsU, eq_self, forall_const, Nat.reduceLT, Nat.reduceEqDiff, Nat.reduceSub, Nat.reduceMul, Nat.reduceMod, Nat.reduceDiv, Nat.reducePow, UInt8.reduceToNat, Int.reduceEq, Int.reduceLT, Int.reduceLE, ↓reduceIte, Nat.reduceAdd, Int.reduceToNat, reduceCtorEq, Nat.reduceLeDiff, ↓AtO, As9]
   exact ⟨fun h => absurd h hno, fun _ => trivial⟩
  obtain ⟨i, hi, hfi, hid⟩ := ABF ha
  rw [hfi]
  simp -dsimp (disch := first | assumption | omega | (simp only [AsP]; done) | (simp only [AsP]; omega)) only [↓AsR, AsO, AsT, AsU, eq_self, forall_const, Nat.reduceLT, Nat.reduceEqDiff, Nat.reduceSub, Nat.reduceMul, Nat.reduceMod, Nat.reduceDiv, Nat.reducePow, UInt8.reduceToNat, Int.reduceEq, Int.reduceLT, Int.reduceLE, ↓reduceIte, Nat.reduceAdd, Int.reduceToNat, reduceCtorEq, Nat.reduceLeDiff, ↓AtO, As9]
  refine (AG4 l b (by omega)).calls rfl fun r hr => ?_
  subst hr
  by_cases hb : b ∈ As8 l
  case neg =>
   have hno : ¬ AAy l [a, b] := fun h => hb (Aut.1 (List.all_eq_true.1 h.2 b (by simp)))
   rw [AGS hb]
   simp -dsimp (disch := first | assumption | omega | (simp only [AsP]; done) | (simp only [AsP]; omega)) only [↓AsR, AsO, AsT, AsU, eq_self, forall_const, Nat.reduceLT, Nat.reduceEqDiff, Nat.reduceSub, Nat.reduceMul, Nat.reduceMod, Nat.reduceDiv, Nat.reducePow, UInt8.reduceToNat, Int.reduceEq, Int.reduceLT, Int.reduceLE, ↓reduceIte, Nat.reduceAdd, Int.reduceToNat, reduceCtorEq, Nat.reduceLeDiff, ↓AtO, As9]
   exact ⟨fun h => absurd h hno, fun _ => trivial⟩
  obtain ⟨j, hj, hfj, hjd⟩ := ABF hb
  rw [hfj]
  have hyes : AAy l [a, b] := ⟨hok, List.all_eq_true.2 fun x hx => by
   rcases List.mem_cons.1 hx with rfl | hx
   ·exact Aut.2 ha
   ·rw [List.mem_singleton] at hx; subst hx; exact Aut.2 hb⟩
  simp -dsimp (disch := first | assumption | omega | (simp only [AsP]; done) | (simp only [AsP]; omega)) only [↓AsR, AsO, AsT, AsU, eq_self, forall_const, Nat.reduceLT, Nat.reduceEqDiff, Nat.reduceSub, Nat.reduceMul, Nat.reduceMod, Nat.reduceDiv, Nat.reducePow, UInt8.reduceToNat, Int.reduceEq, Int.reduceLT, Int.reduceLE, ↓reduceIte, Nat.reduceAdd, Int.reduceToNat, reduceCtorEq, Nat.reduceLeDiff, ↓AtO, As9]
  refine AHk (by rfl) (by rfl) (by simp) ?_
  simp -dsimp (disch := first | assumption | omega | (simp only [AsP]; done) | (simp only [AsP]; omega)) only [↓AsR, AsO, AsT, AsU, eq_self, forall_const, Nat.reduceLT, Nat.reduceEqDiff, Nat.reduceSub, Nat.reduceMul, Nat.reduceMod, Nat.reduceDiv, Nat.reducePow, UInt8.reduceToNat, Int.reduceEq, Int.reduceLT, Int.reduceLE, ↓reduceIte, Nat.reduceAdd, Int.reduceToNat, reduceCtorEq, Nat.reduceLeDiff, ↓AtO, AKN]
  refine (show Avh _ _ [.sl 22 (l.map ndT), .sl 20 ([a].map idT)] _ from AJC l [a] hok.1 hl (fun x hx => by rw [List.mem_singleton] at hx; subst hx; exact ha) (fun n hn => Nat.le_trans (hp n hn) (by omega)) (by simp)).calls rfl fun r hr => ?_
  subst hr
  simp -dsimp (disch := first | assumption | omega | (simp only [AsP]; done) | (simp only [AsP]; omega)) only [↓AsR, AsO, AsT, AsU, eq_self, forall_const, Nat.reduceLT, Nat.reduceEqDiff, Nat.reduceSub, Nat.reduceMul, Nat.reduceMod, Nat.reduceDiv, Nat.reducePow, UInt8.reduceToNat, Int.reduceEq, Int.reduceLT, Int.reduceLE, ↓reduceIte, Nat.reduceAdd, Int.reduceToNat, reduceCtorEq, Nat.reduceLeDiff, ↓AtO, As9]
  refine (AG4 l b (by omega)).calls rfl fun r hr => ?_
  subst hr
  rw [hfj]
  have hget : ((AuX l [a]).map tb)[j]? = some (tb (dec (Rc l [a] b))) := by
   rw [List.getElem?_map]
   have h1 := AB2 (l := l) (S := [a]) hj
   rw [hjd] at h1
   have h2 : j < (AuX l [a]).length := by rw [AxF]; exact hj
   rw [List.getElem?_eq_getElem h2] at h1 ⊢
   by_cases h : Rc l [a] b
   ·have h3 := h1.2 h
    rw [Option.map_some, ANf h]; rw [Option.some.inj h3]
   ·have h3 : (AuX l [a])[j] ≠ true := fun e => h (h1.1 (by rw [e]))
    rw [Option.map_some, ANy h]
    have h4 : (AuX l [a])[j] = false := by simpa using h3
    rw [h4]
  simp -dsimp (disch := first | assumption | omega | (simp only [AsP]; done) | (simp only [AsP]; omega)) only [↓AsR, AsO, AsT, AsU, eq_self, forall_const, Nat.reduceLT, Nat.reduceEqDiff, Nat.reduceSub, Nat.reduceMul, Nat.reduceMod, Nat.reduceDiv, Nat.reducePow, UInt8.reduceToNat, Int.reduceEq, Int.reduceLT, Int.reduceLE, ↓reduceIte, Nat.reduceAdd, Int.reduceToNat, reduceCtorEq, Nat.reduceLeDiff, ↓AtO, As9, hget]
  exact ⟨fun _ => trivial, fun h => absurd hyes h⟩
 ·rw [AFP hok]
  have hno : ¬ AAy l [a, b] := fun h => hok h.1
  simp -dsimp (disch := first | assumption | omega | (simp only [AsP]; done) | (simp only [AsP]; omega)) only [↓AsR, AsO, AsT, AsU, eq_self, forall_const, Nat.reduceLT, Nat.reduceEqDiff, Nat.reduceSub, Nat.reduceMul, Nat.reduceMod, Nat.reduceDiv, Nat.reducePow, UInt8.reduceToNat, Int.reduceEq, Int.reduceLT, Int.reduceLE, ↓reduceIte, Nat.reduceAdd, Int.reduceToNat, reduceCtorEq, Nat.reduceLeDiff, ↓AtO, As9]
  exact ⟨fun h => absurd h hno, fun _ => trivial⟩
theorem AWP {l : List Nd} {x : List UInt8} (h : x ∈ As8 l) : ∃ i : Nat, fnd l x = i := by
 obtain ⟨i, _, e, _⟩ := ABF h; exact ⟨i, e⟩
theorem APd (l : List Nd) (hl : l.length ≤ 1000) (ids : List (List UInt8)) (hlen : ids.length ≤ 100000) : Avh Tryd.prog 28 [.sl 22 (l.map ndT), .sl 20 (ids.map idT)] (fun r => r = tb (ids.all (AJA l))) := by
 refine As1.toPureV (AIX (by simp) ?_)
 simp -dsimp (disch := first | assumption | omega | (simp only [AsP]; done) | (simp only [AsP]; omega)) only [↓AsR, AsO, AsT, AsU, eq_self, forall_const, Nat.reduceLT, Nat.reduceEqDiff, Nat.reduceSub, Nat.reduceMul, Nat.reduceMod, Nat.reduceDiv, Nat.reducePow, UInt8.reduceToNat, Int.reduceEq, Int.reduceLT, Int.reduceLE, ↓reduceIte, Nat.reduceAdd, Int.reduceToNat, reduceCtorEq, Nat.reduceLeDiff, ↓Aw5]
 refine At5 (fun q e H => ∃ i : Nat, q = ids.length - i ∧ i ≤ ids.length ∧ (∀ x ∈ ids.take i, AJA l x = true) ∧ e = [(0, .sl 22 (l.map ndT)), (1, .sl 20 (ids.map idT)), (5, i64 (i : Int))] ∧ H = []) ids.length ?_ ?_
 ·exact ⟨0, by simp, by simp, by simp, rfl, rfl⟩
 ·rintro q e H ⟨i, rfl, hi, hall, rfl, rfl⟩
  by_cases h : i < ids.length
  ·have hg : ids[i]? = some ids[i] := List.getElem?_eq_getElem h
   have hsucc := List.take_succ_eq_append_getElem h
   have hmem := List.getElem_mem h
   generalize ids[i] = x at *
   simp -dsimp (disch := first | assumption | omega | (simp only [AsP]; done) | (simp only [AsP]; omega)) only [↓AsR, AsO, AsT, AsU, eq_self, forall_const, Nat.reduceLT, Nat.reduceEqDiff, Nat.reduceSub, Nat.reduceMul, Nat.reduceMod, Nat.reduceDiv, Nat.reducePow, UInt8.reduceToNat, Int.reduceEq, Int.reduceLT, Int.reduceLE, ↓reduceIte, Nat.reduceAdd, Int.reduceToNat, reduceCtorEq, Nat.reduceLeDiff, ↓Aw5, hg, Atl, Atr, Ata]
   refine (AG4 l x (by omega)).calls rfl fun r hr => ?_
   subst hr
   by_cases hx : x ∈ As8 l
   ·obtain ⟨j, hj⟩ := AWP hx
    rw [hj]
    simp -dsimp (disch := first | assumption | omega | (simp only [AsP]; done) | (simp only [AsP]; omega)) only [↓AsR, AsO, AsT, AsU, eq_self, forall_const, Nat.reduceLT, Nat.reduceEqDiff, Nat.reduceSub, Nat.reduceMul, Nat.reduceMod, Nat.reduceDiv, Nat.reducePow, UInt8.reduceToNat, Int.reduceEq, Int.reduceLT, Int.reduceLE, ↓reduceIte, Nat.reduceAdd, Int.reduceToNat, reduceCtorEq, Nat.reduceLeDiff, ↓Aw5]
    refine Atd (ids.length - (i + 1)) (by omega) (by simp) ⟨i + 1, rfl, by omega, fun y hy => ?_, by simp [forget, get], rfl⟩
    rw [hsucc, List.mem_append, List.mem_singleton] at hy
    rcases hy with hy | rfl
    ·exact hall y hy
    ·exact Aut.2 hx
   ·rw [AGS hx]
    have hno : ids.all (AJA l) = false := by
     rw [List.all_eq_false]
     exact ⟨x, hmem, fun e => hx (Aut.1 e)⟩
    rw [hno]
    simp -dsimp (disch := first | assumption | omega | (simp only [AsP]; done) | (simp only [AsP]; omega)) only [↓AsR, AsO, AsT, AsU, eq_self, forall_const, Nat.reduceLT, Nat.reduceEqDiff, Nat.reduceSub, Nat.reduceMul, Nat.reduceMod, Nat.reduceDiv, Nat.reducePow, UInt8.reduceToNat, Int.reduceEq, Int.reduceLT, Int.reduceLE, ↓reduceIte, Nat.reduceAdd, Int.reduceToNat, reduceCtorEq, Nat.reduceLeDiff, ↓Aw5]
  ·have hi2 : i = ids.length := by omega
   subst hi2
   rw [List.take_length] at hall
   have hyes : ids.all (AJA l) = true := List.all_eq_true.2 hall
   rw [hyes]
   simp -dsimp (disch := first | assumption | omega | (simp only [AsP]; done) | (simp only [AsP]; omega)) only [↓AsR, AsO, AsT, AsU, eq_self, forall_const, Nat.reduceLT, Nat.reduceEqDiff, Nat.reduceSub, Nat.reduceMul, Nat.reduceMod, Nat.reduceDiv, Nat.reducePow, UInt8.reduceToNat, Int.reduceEq, Int.reduceLT, Int.reduceLE, ↓reduceIte, Nat.reduceAdd, Int.reduceToNat, reduceCtorEq, Nat.reduceLeDiff, ↓Aw5]
end Go.Proofs.YtingoaihnlhiaaaDoor


namespace Go.Proofs.YtingoaihnlhiaaaDoor
open Go.RowKit
variable [AtT]
set_option linter.unusedSectionVars false
set_option linter.unusedVariables false
set_option linter.unusedSimpArgs false

theorem AXA {t : TypeId} {a b : List UInt8} : Axx t .lss (.string (str a)) (.string (str b)) = some (.bool (decide (ltB a b))) := by
 unfold Axx
 rw [binOp_string_lss]
 simp only [Lib.toList_data, str, ATH]
 rfl
theorem ANe {N at' : Nat} {cs : List TV} {y : List UInt8} (hg : cs[at']? = some (.arr 20 1 (y.map by8))) (h20 : y.length = 20) : Au8 [(at', at' * 20)] 1 0 20 (.arr N 20 cs) = some (y.map by8) := by
 unfold Au8
 rw [AMa]
 simp [hg, h20, ALZ]
 exact List.take_of_length_le (by simp [h20])
theorem AIF {l out : List (List UInt8)} {i at' k v cp : Nat} {x : List UInt8} {H : List Ob} {Q : VEx → Env → List Ob → Prop} (hg : l[i]? = some x) (hol : out.length ≤ 1000) (hil : i ≤ 1000) (hat : at' ≤ out.length) (hk : H[k]? = some (.obj v (.arr out.length 20 (out.map idT)))) (hcp : out.length ≤ cp)
  (hQ : ∀ k' v' H', H'[k']? = some (.obj v' (.arr (out.take at' ++ [x] ++ out.drop at').length 20 ((out.take at' ++ [x] ++ out.drop at').map idT))) → H.length ≤ H'.length → Q .nor [(0, .sl 20 (l.map idT)), (3, .os 20 k' v' [] 0 (out.take at' ++ [x] ++ out.drop at').length (out.take at' ++ [x] ++ out.drop at').length), (4, i64 (i : Int))] H') :
  vwp Tryd.prog Axj Q [(0, .sl 20 (l.map idT)), (3, .os 20 k v [] 0 out.length cp), (4, i64 (i : Int)), (5, i64 (at' : Int))] H := by
 have hkl := Atm hk
 have htl : ((out.map idT).take at').length = at' := by simp [hat]
 have hdl : ((out.map idT).drop at').length = out.length - at' := by simp
 have hxt : idT x = .arr 20 1 (x.map by8) := As9
 have hq1 : List.take at' (List.take at' out) = List.take at' out := by rw [List.take_take, Nat.min_self]
 have hq2 : (List.take at' out).length = at' := by simp [hat]
 have hq3 : List.take (at' + 1) ((List.take at' out).map idT ++ [.arr 20 1 (x.map by8)]) = (List.take at' out).map idT ++ [.arr 20 1 (x.map by8)] := List.take_of_length_le (by simp [hat])
 have hq4 : (out.drop at').length = out.length - at' := by simp
 simp -dsimp (disch := first | assumption | omega | (simp only [AsP]; done) | (simp only [AsP]; omega)) only [↓AsR, AsO, AsT, AsU, eq_self, forall_const, Nat.reduceLT, Nat.reduceEqDiff, Nat.reduceSub, Nat.reduceMul, Nat.reduceMod, Nat.reduceDiv, Nat.reducePow, UInt8.reduceToNat, Int.reduceEq, Int.reduceLT, Int.reduceLE, ↓reduceIte, Nat.reduceAdd, Int.reduceToNat, reduceCtorEq, Nat.reduceLeDiff, ↓Ava, hg, hk, htl, hdl, hxt, AxS, Aw3, hq1, hq2, hq3, hq4]
 have hlen' : (out.take at' ++ [x] ++ out.drop at').length = at' + 1 + (out.length - at') := by
  rw [List.length_append, List.length_append, hq2, hq4, List.length_singleton]
 have := hQ H.length 3 (H ++ [Ob.obj 3 (.arr (at' + 1 + (out.length - at')) 20 (List.map idT (List.take at' out) ++ [TV.arr 20 1 (List.map by8 x)] ++ List.map idT (List.drop at' out)))] ++ [Ob.obj 0 (TV.arr 1 20 [TV.arr 20 1 (List.map by8 x)])])
  (by rw [List.append_assoc, ABE rfl, hlen']; simp [hxt]) (by simp)
 rw [hlen'] at this
 exact this
theorem ASY (l : List (List UInt8)) (hlen : l.length ≤ 1000) (h20 : ∀ x ∈ l, x.length = 20) : Avh Tryd.prog 34 [.sl 20 (l.map idT)] (fun r => ∃ s, r = .sl 20 (s.map idT) ∧ SD s ∧ ∀ x, x ∈ s ↔ x ∈ l) := by
 refine As1.toPureV (AHR (by simp) ?_)
 simp -dsimp (disch := first | assumption | omega | (simp only [AsP]; done) | (simp only [AsP]; omega)) only [↓AsR, AsO, AsT, AsU, eq_self, forall_const, Nat.reduceLT, Nat.reduceEqDiff, Nat.reduceSub, Nat.reduceMul, Nat.reduceMod, Nat.reduceDiv, Nat.reducePow, UInt8.reduceToNat, Int.reduceEq, Int.reduceLT, Int.reduceLE, ↓reduceIte, Nat.reduceAdd, Int.reduceToNat, reduceCtorEq, Nat.reduceLeDiff, ↓Ava]
 refine At5 (fun q e H => ∃ (i k v cp : Nat) (out : List (List UInt8)), q = l.length - i ∧ i ≤ l.length ∧ SD out ∧ (∀ x, x ∈ out ↔ x ∈ l.take i) ∧ out.length ≤ i ∧ e = [(0, .sl 20 (l.map idT)), (3, .os 20 k v [] 0 out.length cp), (4, i64 (i : Int))] ∧ (H[k]? = some (.obj v (.arr out.length 20 (out.map idT))) ∧ out.length ≤ cp)) l.length ?_ ?_
 ·exact ⟨0, 0, 0, 0, [], by simp, by simp, List.Pairwise.nil, by simp, by simp, by simp [forget, get], rfl, by simp⟩
 ·rintro q e H ⟨i, k, v, cp, out, rfl, hi, hsd, hmem, hol, rfl, hk, hcp⟩
  have hkl := Atm hk
  by_cases h : i < l.length
  ·have hg : l[i]? = some l[i] := List.getElem?_eq_getElem h
   have hsucc := List.take_succ_eq_append_getElem h
   have hx20 := h20 l[i] (List.getElem_mem h)
   generalize l[i] = x at *
   simp -dsimp (disch := first | assumption | omega | (simp only [AsP]; done) | (simp only [AsP]; omega)) only [↓AsR, AsO, AsT, AsU, eq_self, forall_const, Nat.reduceLT, Nat.reduceEqDiff, Nat.reduceSub, Nat.reduceMul, Nat.reduceMod, Nat.reduceDiv, Nat.reducePow, UInt8.reduceToNat, Int.reduceEq, Int.reduceLT, Int.reduceLE, ↓reduceIte, Nat.reduceAdd, Int.reduceToNat, reduceCtorEq, Nat.reduceLeDiff, ↓Ava, hg]
   refine At5 (fun q e H' => ∃ at' : Nat, q = out.length - at' ∧ at' ≤ out.length ∧ (∀ (j : Nat) y, j < at' → out[j]? = some y → ltB y x) ∧ e = [(0, .sl 20 (l.map idT)), (3, .os 20 k v [] 0 out.length cp), (4, i64 (i : Int)), (5, i64 (at' : Int))] ∧ H' = H) out.length ?_ ?_
   ·exact ⟨0, by simp, by simp, by simp, by simp [forget, get], rfl⟩
   ·rintro q e H' ⟨at', rfl, hat, hlt, rfl, rfl⟩
    by_cases ha : at' < out.length
    ·have hga : out[at']? = some out[at'] := List.getElem?_eq_getElem ha
     generalize out[at'] = y at *
     have hgt : (out.map idT)[at']? = some (idT y) := by rw [List.getElem?_map, hga]; rfl
     rw [As9] at hgt
     have h20y : y.length = 20 := h20 y (List.mem_of_mem_take ((hmem y).1 (List.mem_of_getElem? hga)))
     simp -dsimp (disch := first | assumption | omega | (simp only [AsP]; done) | (simp only [AsP]; omega)) only [↓AsR, AsO, AsT, AsU, eq_self, forall_const, Nat.reduceLT, Nat.reduceEqDiff, Nat.reduceSub, Nat.reduceMul, Nat.reduceMod, Nat.reduceDiv, Nat.reducePow, UInt8.reduceToNat, Int.reduceEq, Int.reduceLT, Int.reduceLE, ↓reduceIte, Nat.reduceAdd, Int.reduceToNat, reduceCtorEq, Nat.reduceLeDiff, ↓Ava, hg, hk, hgt, As9, ANe hgt (h20y), AXA]
     refine AOL (fun hl1 => ?_) (fun hl1 => ?_)
     ·simp -dsimp (disch := first | assumption | omega | (simp only [AsP]; done) | (simp only [AsP]; omega)) only [↓AsR, AsO, AsT, AsU, eq_self, forall_const, Nat.reduceLT, Nat.reduceEqDiff, Nat.reduceSub, Nat.reduceMul, Nat.reduceMod, Nat.reduceDiv, Nat.reducePow, UInt8.reduceToNat, Int.reduceEq, Int.reduceLT, Int.reduceLE, ↓reduceIte, Nat.reduceAdd, Int.reduceToNat, reduceCtorEq, Nat.reduceLeDiff, ↓Ava, hg, hk]
      refine Atd (out.length - (at' + 1)) (by omega) (Nat.le_refl _) ⟨at' + 1, rfl, by omega, fun j z hj hz => ?_, by simp [forget, get], rfl⟩
      rcases Nat.lt_succ_iff_lt_or_eq.1 hj with hj | rfl
      ·exact hlt j z hj hz
      ·rw [hga] at hz; cases hz; exact hl1
     ·by_cases hyx : y = x
      ·subst hyx
       simp -dsimp (disch := first | assumption | omega | (simp only [AsP]; done) | (simp only [AsP]; omega)) only [↓AsR, AsO, AsT, AsU, eq_self, forall_const, Nat.reduceLT, Nat.reduceEqDiff, Nat.reduceSub, Nat.reduceMul, Nat.reduceMod, Nat.reduceDiv, Nat.reducePow, UInt8.reduceToNat, Int.reduceEq, Int.reduceLT, Int.reduceLE, ↓reduceIte, Nat.reduceAdd, Int.reduceToNat, reduceCtorEq, Nat.reduceLeDiff, ↓Ava, hg, hk, hgt, As9, beq_self_eq_true]
       exact Atd (l.length - (i + 1)) (by omega) (by omega) ⟨i + 1, k, v, cp, out, rfl, by omega, hsd, fun z => by
        rw [hsucc, List.mem_append, List.mem_singleton, ← hmem z]
        exact ⟨.inl, fun h => h.elim id fun e => by subst e; exact List.mem_of_getElem? hga⟩, by omega, by simp [forget, get], hk, hcp⟩
      ·have hbeq : (y == x) = false := by simpa using hyx
       simp -dsimp (disch := first | assumption | omega | (simp only [AsP]; done) | (simp only [AsP]; omega)) only [↓AsR, AsO, AsT, AsU, eq_self, forall_const, Nat.reduceLT, Nat.reduceEqDiff, Nat.reduceSub, Nat.reduceMul, Nat.reduceMod, Nat.reduceDiv, Nat.reducePow, UInt8.reduceToNat, Int.reduceEq, Int.reduceLT, Int.reduceLE, ↓reduceIte, Nat.reduceAdd, Int.reduceToNat, reduceCtorEq, Nat.reduceLeDiff, ↓Awp, hg, hk, hgt, As9, hbeq]
       refine AIF hg (by omega) (by omega) hat hk hcp fun k' v' H2 hk2 hl2 => ?_
       obtain ⟨i1, i2⟩ := hsd.insert hat hlt (fun z hz => by rw [hga] at hz; cases hz; exact ⟨hl1, hyx⟩)
       have hlen' : (out.take at' ++ [x] ++ out.drop at').length ≤ i + 1 := by simp; omega
       generalize out.take at' ++ [x] ++ out.drop at' = out' at *
       simp -dsimp (disch := first | assumption | omega | (simp only [AsP]; done) | (simp only [AsP]; omega)) only [↓AsR, AsO, AsT, AsU, eq_self, forall_const, Nat.reduceLT, Nat.reduceEqDiff, Nat.reduceSub, Nat.reduceMul, Nat.reduceMod, Nat.reduceDiv, Nat.reducePow, UInt8.reduceToNat, Int.reduceEq, Int.reduceLT, Int.reduceLE, ↓reduceIte, Nat.reduceAdd, Int.reduceToNat, reduceCtorEq, Nat.reduceLeDiff, ↓Aws]
       exact Atd (l.length - (i + 1)) (by omega) (by omega) ⟨i + 1, k', v', _, out', rfl, by omega, i1, fun z => by
        rw [hsucc, List.mem_append, List.mem_singleton, ← hmem z, i2 z]; exact or_comm, hlen', by simp [forget, get], hk2, Nat.le_refl _⟩
    ·have hat2 : at' = out.length := by omega
     subst hat2
     simp -dsimp (disch := first | assumption | omega | (simp only [AsP]; done) | (simp only [AsP]; omega)) only [↓AsR, AsO, AsT, AsU, eq_self, forall_const, Nat.reduceLT, Nat.reduceEqDiff, Nat.reduceSub, Nat.reduceMul, Nat.reduceMod, Nat.reduceDiv, Nat.reducePow, UInt8.reduceToNat, Int.reduceEq, Int.reduceLT, Int.reduceLE, ↓reduceIte, Nat.reduceAdd, Int.reduceToNat, reduceCtorEq, Nat.reduceLeDiff, ↓Ax1, ↓Awp, hg, hk]
     refine AIF hg (by omega) (by omega) hat hk hcp fun k' v' H2 hk2 hl2 => ?_
     obtain ⟨i1, i2⟩ := hsd.insert hat hlt (fun z hz => by rw [List.getElem?_eq_none (Nat.le_refl _)] at hz; cases hz)
     have hlen' : (out.take out.length ++ [x] ++ out.drop out.length).length ≤ i + 1 := by simp; omega
     generalize out.take out.length ++ [x] ++ out.drop out.length = out' at *
     simp -dsimp (disch := first | assumption | omega | (simp only [AsP]; done) | (simp only [AsP]; omega)) only [↓AsR, AsO, AsT, AsU, eq_self, forall_const, Nat.reduceLT, Nat.reduceEqDiff, Nat.reduceSub, Nat.reduceMul, Nat.reduceMod, Nat.reduceDiv, Nat.reducePow, UInt8.reduceToNat, Int.reduceEq, Int.reduceLT, Int.reduceLE, ↓reduceIte, Nat.reduceAdd, Int.reduceToNat, reduceCtorEq, Nat.reduceLeDiff, ↓Aws]
     exact Atd (l.length - (i + 1)) (by omega) (by omega) ⟨i + 1, k', v', _, out', rfl, by omega, i1, fun z => by
      rw [hsucc, List.mem_append, List.mem_singleton, ← hmem z, i2 z]; exact or_comm, hlen', by simp [forget, get], hk2, Nat.le_refl _⟩
  ·have hi2 : i = l.length := by omega
   subst hi2
   rw [List.take_length] at hmem
   simp -dsimp (disch := first | assumption | omega | (simp only [AsP]; done) | (simp only [AsP]; omega)) only [↓AsR, AsO, AsT, AsU, eq_self, forall_const, Nat.reduceLT, Nat.reduceEqDiff, Nat.reduceSub, Nat.reduceMul, Nat.reduceMod, Nat.reduceDiv, Nat.reducePow, UInt8.reduceToNat, Int.reduceEq, Int.reduceLT, Int.reduceLE, ↓reduceIte, Nat.reduceAdd, Int.reduceToNat, reduceCtorEq, Nat.reduceLeDiff, ↓Ava, hk]
   exact ⟨out, rfl, hsd, hmem⟩
end Go.Proofs.YtingoaihnlhiaaaDoor


namespace Go.Proofs.YtingoaihnlhiaaaDoor
open Go.RowKit
variable [AtT]
set_option linter.unusedSectionVars false
set_option linter.unusedVariables false
set_option linter.unusedSimpArgs false

theorem AGV {l : List Nd} {S : List (List UInt8)} {j : Nat} (hj : j < l.length) : ((AuX l S).map tb)[j]? = some (tb (dec (Rc l S l[j].id))) := by
 rw [List.getElem?_map]
 have h1 := AB2 (l := l) (S := S) hj
 have h2 : j < (AuX l S).length := by rw [AxF]; exact hj
 rw [List.getElem?_eq_getElem h2] at h1 ⊢
 by_cases h : Rc l S l[j].id
 ·have h3 := h1.2 h
  rw [Option.map_some, ANf h]; rw [Option.some.inj h3]
 ·have h3 : (AuX l S)[j] ≠ true := fun e => h (h1.1 (by rw [e]))
  rw [Option.map_some, ANy h]
  have h4 : (AuX l S)[j] = false := by simpa using h3
  rw [h4]
/-- Another one of these reaches it. -/
def AJ9 (l : List Nd) (s : List (List UInt8)) (x : List UInt8) : Prop := ∃ k ∈ s, k ≠ x ∧ Rc l [k] x
noncomputable def AEN (l : List Nd) (s : List (List UInt8)) : List (List UInt8) := s.filter fun x => !dec (AJ9 l s x)
theorem AJc (l : List Nd) (hl : l.length ≤ 1000) (hp : ∀ n ∈ l, n.ps.length ≤ 1000) (some' : List (List UInt8)) (hlen : some'.length ≤ 1000) (h20 : ∀ x ∈ some', x.length = 20) : Avh Tryd.prog 18 [.sl 22 (l.map ndT), .sl 20 (some'.map idT)] (fun r =>
  (AAy l some' → ∃ s, r = .tup [.sl 20 ((AEN l s).map idT), i64 ((0 : Nat) : Int)] ∧ SD s ∧ ∀ x, x ∈ s ↔ x ∈ some') ∧ (¬ AAy l some' → r = .tup [.val (.slice none 0 0), i64 ((80 : Nat) : Int)])) := by
 refine As1.toPureV (AHM (by simp) ?_)
 simp -dsimp (disch := first | assumption | omega | (simp only [AsP]; done) | (simp only [AsP]; omega)) only [↓AsR, AsO, AsT, AsU, eq_self, forall_const, Nat.reduceLT, Nat.reduceEqDiff, Nat.reduceSub, Nat.reduceMul, Nat.reduceMod, Nat.reduceDiv, Nat.reducePow, UInt8.reduceToNat, Int.reduceEq, Int.reduceLT, Int.reduceLE, ↓reduceIte, Nat.reduceAdd, Int.reduceToNat, reduceCtorEq, Nat.reduceLeDiff, ↓Ath]
 refine (AP6 l hl hp).calls rfl fun r hr => ?_
 subst hr
 by_cases hok : GOk l
 case neg =>
  rw [AFP hok]
  have hno : ¬ AAy l some' := fun h => hok h.1
  simp -dsimp (disch := first | assumption | omega | (simp only [AsP]; done) | (simp only [AsP]; omega)) only [↓AsR, AsO, AsT, AsU, eq_self, forall_const, Nat.reduceLT, Nat.reduceEqDiff, Nat.reduceSub, Nat.reduceMul, Nat.reduceMod, Nat.reduceDiv, Nat.reducePow, UInt8.reduceToNat, Int.reduceEq, Int.reduceLT, Int.reduceLE, ↓reduceIte, Nat.reduceAdd, Int.reduceToNat, reduceCtorEq, Nat.reduceLeDiff, ↓Ath]
  refine (APd l hl some' (by omega)).calls rfl fun r hr => ?_
  subst hr
  simp -dsimp (disch := first | assumption | omega | (simp only [AsP]; done) | (simp only [AsP]; omega)) only [↓AsR, AsO, AsT, AsU, eq_self, forall_const, Nat.reduceLT, Nat.reduceEqDiff, Nat.reduceSub, Nat.reduceMul, Nat.reduceMod, Nat.reduceDiv, Nat.reducePow, UInt8.reduceToNat, Int.reduceEq, Int.reduceLT, Int.reduceLE, ↓reduceIte, Nat.reduceAdd, Int.reduceToNat, reduceCtorEq, Nat.reduceLeDiff, ↓Ath]
  exact ⟨fun h => absurd h hno, fun _ => trivial⟩
 rw [AJu hok]
 simp -dsimp (disch := first | assumption | omega | (simp only [AsP]; done) | (simp only [AsP]; omega)) only [↓AsR, AsO, AsT, AsU, eq_self, forall_const, Nat.reduceLT, Nat.reduceEqDiff, Nat.reduceSub, Nat.reduceMul, Nat.reduceMod, Nat.reduceDiv, Nat.reducePow, UInt8.reduceToNat, Int.reduceEq, Int.reduceLT, Int.reduceLE, ↓reduceIte, Nat.reduceAdd, Int.reduceToNat, reduceCtorEq, Nat.reduceLeDiff, ↓Ath]
 refine (APd l hl some' (by omega)).calls rfl fun r hr => ?_
 subst hr
 by_cases hkn : some'.all (AJA l) = true
 case neg =>
  have hkf : some'.all (AJA l) = false := by simpa using hkn
  have hno : ¬ AAy l some' := fun h => hkn h.2
  rw [hkf]
  simp -dsimp (disch := first | assumption | omega | (simp only [AsP]; done) | (simp only [AsP]; omega)) only [↓AsR, AsO, AsT, AsU, eq_self, forall_const, Nat.reduceLT, Nat.reduceEqDiff, Nat.reduceSub, Nat.reduceMul, Nat.reduceMod, Nat.reduceDiv, Nat.reducePow, UInt8.reduceToNat, Int.reduceEq, Int.reduceLT, Int.reduceLE, ↓reduceIte, Nat.reduceAdd, Int.reduceToNat, reduceCtorEq, Nat.reduceLeDiff, ↓Ath]
  exact ⟨fun h => absurd h hno, fun _ => trivial⟩
 rw [hkn]
 have hyes : AAy l some' := ⟨hok, hkn⟩
 simp -dsimp (disch := first | assumption | omega | (simp only [AsP]; done) | (simp only [AsP]; omega)) only [↓AsR, AsO, AsT, AsU, eq_self, forall_const, Nat.reduceLT, Nat.reduceEqDiff, Nat.reduceSub, Nat.reduceMul, Nat.reduceMod, Nat.reduceDiv, Nat.reducePow, UInt8.reduceToNat, Int.reduceEq, Int.reduceLT, Int.reduceLE, ↓reduceIte, Nat.reduceAdd, Int.reduceToNat, reduceCtorEq, Nat.reduceLeDiff, ↓Ath]
 refine (ASY some' hlen h20).calls rfl fun r hr => ?_
 obtain ⟨s, rfl, hsd, hmem⟩ := hr
 have hsl : s.length ≤ 1000 := Nat.le_trans (Axm hsd.nodup fun x hx => (hmem x).1 hx) hlen
 have hin : ∀ x ∈ s, x ∈ As8 l := fun x hx => Aut.1 (List.all_eq_true.1 hkn x ((hmem x).1 hx))
 simp -dsimp (disch := first | assumption | omega | (simp only [AsP]; done) | (simp only [AsP]; omega)) only [↓AsR, AsO, AsT, AsU, eq_self, forall_const, Nat.reduceLT, Nat.reduceEqDiff, Nat.reduceSub, Nat.reduceMul, Nat.reduceMod, Nat.reduceDiv, Nat.reducePow, UInt8.reduceToNat, Int.reduceEq, Int.reduceLT, Int.reduceLE, ↓reduceIte, Nat.reduceAdd, Int.reduceToNat, reduceCtorEq, Nat.reduceLeDiff, ↓Ath]
 refine At5 (fun q e H => ∃ (i v cp : Nat) (out : List (List UInt8)) (T : List Ob), q = s.length - i ∧ i ≤ s.length ∧ out = (s.take i).filter (fun x => !dec (AJ9 l s x)) ∧ out.length ≤ cp ∧ e = [(0, .sl 22 (l.map ndT)), (8, .os 20 0 v [] 0 out.length cp), (9, .sl 20 (s.map idT)), (10, i64 (i : Int))] ∧ H = .obj v (.arr out.length 20 (out.map idT)) :: T) s.length ?_ ?_
 ·exact ⟨0, 0, 0, [], [], by simp, by simp, by simp, by simp, by simp [forget, get], rfl⟩
 ·rintro q e H ⟨i, v, cp, out, T, rfl, hi, hout, hcp, rfl, rfl⟩
  have hol : out.length ≤ i := by
   rw [hout]; exact Nat.le_trans (List.length_filter_le _ _) (by simp; omega)
  by_cases h : i < s.length
  ·have hg : s[i]? = some s[i] := List.getElem?_eq_getElem h
   have hsucc := List.take_succ_eq_append_getElem h
   have hxm := List.getElem_mem h
   generalize s[i] = x at *
   simp -dsimp (disch := first | assumption | omega | (simp only [AsP]; done) | (simp only [AsP]; omega)) only [↓AsR, AsO, AsT, AsU, eq_self, forall_const, Nat.reduceLT, Nat.reduceEqDiff, Nat.reduceSub, Nat.reduceMul, Nat.reduceMod, Nat.reduceDiv, Nat.reducePow, UInt8.reduceToNat, Int.reduceEq, Int.reduceLT, Int.reduceLE, ↓reduceIte, Nat.reduceAdd, Int.reduceToNat, reduceCtorEq, Nat.reduceLeDiff, ↓Ath, hg]
   refine At5 (fun q e H => ∃ (k : Nat) (b : Bool) (T2 : List Ob), q = s.length - k ∧ k ≤ s.length ∧ (b = true ↔ ∀ y ∈ s.take k, ¬ (y ≠ x ∧ Rc l [y] x)) ∧ e = [(0, .sl 22 (l.map ndT)), (8, .os 20 0 v [] 0 out.length cp), (9, .sl 20 (s.map idT)), (10, i64 (i : Int)), (11, tb b), (12, i64 (k : Int))] ∧ H = .obj v (.arr out.length 20 (out.map idT)) :: T2 ∧ T.length ≤ T2.length) s.length ?_ ?_
   ·exact ⟨0, true, T, by simp, by simp, by simp, by simp [forget, get], rfl, Nat.le_refl _⟩
   ·rintro q e H ⟨k, b, T2, rfl, hk, hb, rfl, rfl, hT2⟩
    by_cases h2 : k < s.length
    ·have hgk : s[k]? = some s[k] := List.getElem?_eq_getElem h2
     have hsucc2 := List.take_succ_eq_append_getElem h2
     have hym := List.getElem_mem h2
     generalize s[k] = y at *
     simp -dsimp (disch := first | assumption | omega | (simp only [AsP]; done) | (simp only [AsP]; omega)) only [↓AsR, AsO, AsT, AsU, eq_self, forall_const, Nat.reduceLT, Nat.reduceEqDiff, Nat.reduceSub, Nat.reduceMul, Nat.reduceMod, Nat.reduceDiv, Nat.reducePow, UInt8.reduceToNat, Int.reduceEq, Int.reduceLT, Int.reduceLE, ↓reduceIte, Nat.reduceAdd, Int.reduceToNat, reduceCtorEq, Nat.reduceLeDiff, ↓Ath, hg, hgk, As9, AxS]
     have hz : (Ob.obj v (.arr out.length 20 (out.map idT)) :: (T2 ++ [Ob.obj 0 (.arr 1 20 [.arr 20 1 (y.map by8)])]))[T2.length + 1]? = some (.obj 0 (.arr 1 20 [.arr 20 1 (y.map by8)])) := by simp
     refine AHk (by rfl) hz (by simp) ?_
     simp -dsimp (disch := first | assumption | omega | (simp only [AsP]; done) | (simp only [AsP]; omega)) only [↓AsR, AsO, AsT, AsU, eq_self, forall_const, Nat.reduceLT, Nat.reduceEqDiff, Nat.reduceSub, Nat.reduceMul, Nat.reduceMod, Nat.reduceDiv, Nat.reducePow, UInt8.reduceToNat, Int.reduceEq, Int.reduceLT, Int.reduceLE, ↓reduceIte, Nat.reduceAdd, Int.reduceToNat, reduceCtorEq, Nat.reduceLeDiff, ↓Ath, AKN]
     refine (show Avh _ _ [.sl 22 (l.map ndT), .sl 20 ([y].map idT)] _ from AJC l [y] hok.1 hl (fun z hz => by rw [List.mem_singleton] at hz; subst hz; exact hin _ hym) (fun n hn => Nat.le_trans (hp n hn) (by omega)) (by simp)).calls rfl fun r hr => ?_
     subst hr
     by_cases hki : k = i
     ·subst hki
      have hyx : y = x := by rw [hg] at hgk; cases hgk; rfl
      subst hyx
      simp -dsimp (disch := first | assumption | omega | (simp only [AsP]; done) | (simp only [AsP]; omega)) only [↓AsR, AsO, AsT, AsU, eq_self, forall_const, Nat.reduceLT, Nat.reduceEqDiff, Nat.reduceSub, Nat.reduceMul, Nat.reduceMod, Nat.reduceDiv, Nat.reducePow, UInt8.reduceToNat, Int.reduceEq, Int.reduceLT, Int.reduceLE, ↓reduceIte, Nat.reduceAdd, Int.reduceToNat, reduceCtorEq, Nat.reduceLeDiff, ↓Ath, ne_eq]
      exact Atd (s.length - (k + 1)) (by omega) (by simp; omega) ⟨k + 1, b, _, rfl, by omega, by
       rw [hb, hsucc2]
       exact ⟨fun h z hz => (List.mem_append.1 hz).elim (h z) fun e => by rw [List.mem_singleton.1 e]; exact fun h => h.1 rfl, fun h z hz => h z (List.mem_append_left _ hz)⟩, by simp [forget, get], rfl, by simp; omega⟩
     ·have hyx : y ≠ x := by
       rintro rfl
       exact hki ((List.getElem?_inj h2 hsd.nodup).1 (by rw [hgk, hg]))
      simp -dsimp (disch := first | assumption | omega | (simp only [AsP]; done) | (simp only [AsP]; omega)) only [↓AsR, AsO, AsT, AsU, eq_self, forall_const, Nat.reduceLT, Nat.reduceEqDiff, Nat.reduceSub, Nat.reduceMul, Nat.reduceMod, Nat.reduceDiv, Nat.reducePow, UInt8.reduceToNat, Int.reduceEq, Int.reduceLT, Int.reduceLE, ↓reduceIte, Nat.reduceAdd, Int.reduceToNat, reduceCtorEq, Nat.reduceLeDiff, ↓Ath, hg, hki, ne_eq, As9]
      refine (AG4 l x (by omega)).calls rfl fun r hr => ?_
      subst hr
      obtain ⟨j, hj, hfj, hjd⟩ := ABF (hin x hxm)
      rw [hfj]
      have hget := AGV (l := l) (S := [y]) hj
      rw [hjd] at hget
      by_cases hr : Rc l [y] x
      ·rw [ANf hr] at hget
       simp -dsimp (disch := first | assumption | omega | (simp only [AsP]; done) | (simp only [AsP]; omega)) only [↓AsR, AsO, AsT, AsU, eq_self, forall_const, Nat.reduceLT, Nat.reduceEqDiff, Nat.reduceSub, Nat.reduceMul, Nat.reduceMod, Nat.reduceDiv, Nat.reducePow, UInt8.reduceToNat, Int.reduceEq, Int.reduceLT, Int.reduceLE, ↓reduceIte, Nat.reduceAdd, Int.reduceToNat, reduceCtorEq, Nat.reduceLeDiff, ↓Ath, hget]
       exact Atd (s.length - (k + 1)) (by omega) (by simp; omega) ⟨k + 1, false, _, rfl, by omega, by
        rw [hsucc2]
        exact ⟨fun h => (by cases h), fun h => absurd ⟨hyx, hr⟩ (h y (by simp))⟩, by simp [forget, get], rfl, by simp; omega⟩
      ·rw [ANy hr] at hget
       simp -dsimp (disch := first | assumption | omega | (simp only [AsP]; done) | (simp only [AsP]; omega)) only [↓AsR, AsO, AsT, AsU, eq_self, forall_const, Nat.reduceLT, Nat.reduceEqDiff, Nat.reduceSub, Nat.reduceMul, Nat.reduceMod, Nat.reduceDiv, Nat.reducePow, UInt8.reduceToNat, Int.reduceEq, Int.reduceLT, Int.reduceLE, ↓reduceIte, Nat.reduceAdd, Int.reduceToNat, reduceCtorEq, Nat.reduceLeDiff, ↓Ath, hget]
       exact Atd (s.length - (k + 1)) (by omega) (by simp; omega) ⟨k + 1, b, _, rfl, by omega, by
        rw [hb, hsucc2]
        exact ⟨fun h z hz => (List.mem_append.1 hz).elim (h z) fun e => by rw [List.mem_singleton.1 e]; exact fun h => hr h.2, fun h z hz => h z (List.mem_append_left _ hz)⟩, by simp [forget, get], rfl, by simp; omega⟩
    ·have hk2 : k = s.length := by omega
     subst hk2
     rw [List.take_length] at hb
     simp -dsimp (disch := first | assumption | omega | (simp only [AsP]; done) | (simp only [AsP]; omega)) only [↓AsR, AsO, AsT, AsU, eq_self, forall_const, Nat.reduceLT, Nat.reduceEqDiff, Nat.reduceSub, Nat.reduceMul, Nat.reduceMod, Nat.reduceDiv, Nat.reducePow, UInt8.reduceToNat, Int.reduceEq, Int.reduceLT, Int.reduceLE, ↓reduceIte, Nat.reduceAdd, Int.reduceToNat, reduceCtorEq, Nat.reduceLeDiff, ↓Ath, hg]
     have htk : (out.map idT).take out.length = out.map idT := AuG rfl
     have hxt : idT x = .arr 20 1 (x.map by8) := As9
     cases b with
     | true =>
      have hd : dec (AJ9 l s x) = false := ANy fun ⟨k, hk, h1, h2⟩ => hb.1 rfl k hk ⟨h1, h2⟩
      have hout' : (s.take (i + 1)).filter (fun x => !dec (AJ9 l s x)) = out ++ [x] := by
       rw [hsucc, List.filter_append, ← hout]; simp [hd]
      simp -dsimp (disch := first | assumption | omega | (simp only [AsP]; done) | (simp only [AsP]; omega)) only [↓AsR, AsO, AsT, AsU, eq_self, forall_const, Nat.reduceLT, Nat.reduceEqDiff, Nat.reduceSub, Nat.reduceMul, Nat.reduceMod, Nat.reduceDiv, Nat.reducePow, UInt8.reduceToNat, Int.reduceEq, Int.reduceLT, Int.reduceLE, ↓reduceIte, Nat.reduceAdd, Int.reduceToNat, reduceCtorEq, Nat.reduceLeDiff, ↓Ath, hg, hxt, AxS, Aw3, htk]
      exact Atd (s.length - (i + 1)) (by omega) (by simp) ⟨i + 1, v + 1, _, out ++ [x], _, rfl, by omega, hout'.symm, Nat.le_refl _, by simp [forget, get], by simp [hxt]; rfl⟩
     | false =>
      have hd : dec (AJ9 l s x) = true := ANf (Classical.byContradiction fun hno => by
       have := hb.2 fun y hy ⟨h1, h2⟩ => hno ⟨y, hy, h1, h2⟩
       cases this)
      have hout' : (s.take (i + 1)).filter (fun x => !dec (AJ9 l s x)) = out := by
       rw [hsucc, List.filter_append, ← hout]; simp [hd]
      simp -dsimp (disch := first | assumption | omega | (simp only [AsP]; done) | (simp only [AsP]; omega)) only [↓AsR, AsO, AsT, AsU, eq_self, forall_const, Nat.reduceLT, Nat.reduceEqDiff, Nat.reduceSub, Nat.reduceMul, Nat.reduceMod, Nat.reduceDiv, Nat.reducePow, UInt8.reduceToNat, Int.reduceEq, Int.reduceLT, Int.reduceLE, ↓reduceIte, Nat.reduceAdd, Int.reduceToNat, reduceCtorEq, Nat.reduceLeDiff, ↓Ath, hg]
      exact Atd (s.length - (i + 1)) (by omega) (by simp) ⟨i + 1, v, cp, out, _, rfl, by omega, hout'.symm, hcp, by simp [forget, get], rfl⟩
  ·have hi2 : i = s.length := by omega
   subst hi2
   rw [List.take_length] at hout
   simp -dsimp (disch := first | assumption | omega | (simp only [AsP]; done) | (simp only [AsP]; omega)) only [↓AsR, AsO, AsT, AsU, eq_self, forall_const, Nat.reduceLT, Nat.reduceEqDiff, Nat.reduceSub, Nat.reduceMul, Nat.reduceMod, Nat.reduceDiv, Nat.reducePow, UInt8.reduceToNat, Int.reduceEq, Int.reduceLT, Int.reduceLE, ↓reduceIte, Nat.reduceAdd, Int.reduceToNat, reduceCtorEq, Nat.reduceLeDiff, ↓Ath]
   exact ⟨fun _ => ⟨s, by rw [hout]; rfl, hsd, hmem⟩, fun h => absurd hyes h⟩
end Go.Proofs.YtingoaihnlhiaaaDoor

