/- What the proof of GraphBasesCard stands on (texts merged; names shortened by a program): part 5. -/
import Derived.Test.YtingoaihnlhiaaaDoorQD
import Derived.Sort.Walk0
import Derived.Lib.Bytealg
import Derived.Test.YtingoaihnlhiaaaDoorProg
import Derived.KernelRfl
namespace Go.Proofs.YtingoaihnlhiaaaDoor
open Go.RowKit
variable [At3]
set_option linter.unusedSectionVars false
set_option linter.unusedVariables false
set_option linter.unusedSimpArgs false

theorem AHa {l : List Nd} (hn : (Atf l).Nodup) {i : Nat} (h : i < l.length) : fnd l l[i].id = i := by
 refine ATw h (fun k hk e => ?_) rfl
 have h1 : (Atf l)[k]? = some l[k].id := by rw [Atf, List.getElem?_map, List.getElem?_eq_getElem (by omega)]; rfl
 have h2 : (Atf l)[i]? = some l[i].id := by rw [Atf, List.getElem?_map, List.getElem?_eq_getElem h]; rfl
 have := (List.getElem?_inj (i := k) (j := i) (by rw [Atf, List.length_map]; omega) hn).1 (by rw [h1, h2, e])
 omega
theorem AAY {l : List Nd} {x : List UInt8} (hx : x ∈ Atf l) : ∃ i, ∃ h : i < l.length, fnd l x = i ∧ l[i].id = x := by
 obtain ⟨n, hn, rfl⟩ := List.mem_map.1 hx
 have hlt : (l.findIdx fun m => m.id == n.id) < l.length := List.findIdx_lt_length_of_exists ⟨n, hn, by simp⟩
 refine ⟨l.findIdx fun m => m.id == n.id, hlt, ?_, ?_⟩
 ·unfold fnd; rw [if_pos ⟨n, hn, rfl⟩]
 ·have := List.findIdx_getElem (xs := l) (p := fun m => m.id == n.id) (w := hlt)
  simpa using this
theorem AUD {l : List Nd} {x : List UInt8} : fnd l x < 0 ↔ ¬ x ∈ Atf l := by
 constructor
 ·intro h hx
  obtain ⟨i, _, e, _⟩ := AAY hx
  omega
 ·intro h
  unfold fnd
  rw [if_neg]
  ·omega
  ·rintro ⟨n, hn, e⟩; exact h (e ▸ Ay6 hn)

noncomputable def Au9 (l : List Nd) (S : List (List UInt8)) : List Bool := l.map fun n => @decide (Rc l S n.id) (Classical.propDecidable _)
theorem AxK {l : List Nd} {S : List (List UInt8)} : (Au9 l S).length = l.length := by simp [Au9]
theorem AB4 {l : List Nd} {S : List (List UInt8)} {i : Nat} (h : i < l.length) : (Au9 l S)[i]? = some true ↔ Rc l S l[i].id := by
 unfold Au9
 rw [List.getElem?_map, List.getElem?_eq_getElem h]
 simp

/-- ACq that are right so far. -/
structure ACq (l : List Nd) (S : List (List UInt8)) (m : List Bool) : Prop where
 len : m.length = l.length
 sound : ∀ i (h : i < l.length), m[i]? = some true → Rc l S l[i].id
theorem ACq.set {l : List Nd} {S : List (List UInt8)} {m : List Bool} (h : ACq l S m) {i : Nat} (hi : i < l.length) (hr : Rc l S l[i].id) : ACq l S (m.set i true) := by
 refine ⟨by rw [List.length_set, h.len], fun j hj hm => ?_⟩
 rw [List.getElem?_set] at hm
 split at hm
 ·rename_i e; subst e; exact hr
 ·exact h.sound j hj hm
/-- What is marked stays marked. -/
def AQl (m m' : List Bool) : Prop := ∀ i : Nat, m[i]? = some true → m'[i]? = some true
theorem AQl.set {m : List Bool} {i : Nat} (hi : i < m.length) : AQl m (m.set i true) := fun j h => by
 rw [List.getElem?_set]
 split
 ·rename_i e; subst e; simp [hi]
 ·exact h
/-- How many are not marked. -/
def unm (m : List Bool) : Nat := m.count false
theorem AVd {m : List Bool} {i : Nat} (h : m[i]? = some false) : unm (m.set i true) < unm m := by
 unfold unm
 obtain ⟨hi, he⟩ := List.getElem?_eq_some_iff.1 h
 have e := List.take_append_drop i m
 have hd : m.drop i = m[i] :: m.drop (i + 1) := List.drop_eq_getElem_cons hi
 have hs : m.set i true = m.take i ++ true :: m.drop (i + 1) := List.set_eq_take_append_cons_drop.trans (by rw [if_pos hi])
 have h1 : List.count false m = List.count false (m.take i) + List.count false (m[i] :: m.drop (i + 1)) := by rw [← List.count_append, ← hd, e]
 rw [hs, List.count_append, h1, he]
 simp
theorem ANf {l : List Nd} (hv : AKd l) {S : List (List UInt8)} {m : List Bool} (h : ACq l S m) (hb : ∀ x ∈ S, ∀ i (hi : i < l.length), l[i].id = x → m[i]? = some true)
  (hc : ∀ i (hi : i < l.length), m[i]? = some true → ∀ p ∈ l[i].ps, ∀ j (hj : j < l.length), l[j].id = p → m[j]? = some true) : m = Au9 l S := by
 have comp : ∀ x, Rc l S x → ∀ i (hi : i < l.length), l[i].id = x → m[i]? = some true := by
  intro x hx
  induction hx with
  | base hx => exact hb _ hx
  | step _ h2 ih =>
   intro j hj hje
   obtain ⟨n, hn, hne, hp⟩ := AIN h2
   obtain ⟨i, hi, rfl⟩ := List.mem_iff_getElem.1 hn
   exact hc i hi (ih i hi hne) _ hp j hj hje
 apply List.ext_getElem?
 intro i
 by_cases hi : i < l.length
 ·have h1 : m[i]? = some true ↔ (Au9 l S)[i]? = some true := by
   rw [AB4 hi]
   exact ⟨h.sound i hi, fun hr => comp _ hr i hi rfl⟩
  have hm : m[i]? = some (m[i]'(by rw [h.len]; exact hi)) := List.getElem?_eq_getElem _
  have hr : (Au9 l S)[i]? = some ((Au9 l S)[i]'(by rw [AxK]; exact hi)) := List.getElem?_eq_getElem _
  rw [hm, hr] at h1 ⊢
  simp only [Option.some.injEq] at h1 ⊢
  exact Bool.eq_iff_iff.2 h1
 ·rw [List.getElem?_eq_none (by rw [h.len]; omega), List.getElem?_eq_none (by rw [AxK]; omega)]
theorem Atr {l : List UInt8} : At8 (idT l) = false := by rw [Ate]; rfl

theorem AKU (l : List Nd) (S : List (List UInt8)) (hv : AKd l) (hl : l.length ≤ 1000) (hS : ∀ x ∈ S, x ∈ Atf l) (hp : ∀ n ∈ l, n.ps.length ≤ 100000) (hs : S.length ≤ 100000) : Avl Tryd.prog 29 [.sl 22 (l.map ndT), .sl 20 (S.map idT)] (fun r => r = .sl 1 ((Au9 l S).map tb)) := by
 refine As7.toPureV (AI8 (by simp) ?_)
 simp -dsimp (disch := first | assumption | omega) only [↓AsZ, AsV, AsY, As0, eq_self, forall_const, Nat.reduceLT, Nat.reduceEqDiff, Nat.reduceSub, Nat.reduceMul, Nat.reduceMod, Nat.reduceDiv, Nat.reducePow, UInt8.reduceToNat, Int.reduceEq, Int.reduceLT, Int.reduceLE, ↓reduceIte, Nat.reduceAdd, Int.reduceToNat, reduceCtorEq, Nat.reduceLeDiff, ↓AtI]
 refine Aua (fun q e H => ∃ (i : Nat) (m : List Bool), q = S.length - i ∧ i ≤ S.length ∧ ACq l S m ∧ (∀ x ∈ S.take i, ∀ j (hj : j < l.length), l[j].id = x → m[j]? = some true) ∧ e = [(0, .sl 22 (l.map ndT)), (1, .sl 20 (S.map idT)), (5, .os 1 0 0 [] 0 l.length l.length), (6, i64 (i : Int))] ∧ H = [.obj 0 (.arr l.length 1 (m.map tb))]) S.length ?_ ?_
 ·exact ⟨0, List.replicate l.length false, by simp, by simp, ⟨by simp, fun i h hm => by simp [List.getElem?_replicate] at hm⟩, by simp, rfl, by simp [tb]⟩
 ·rintro q e H ⟨i, m, rfl, hi, hm, hb, rfl, rfl⟩
  by_cases h : i < S.length
  ·have hg : S[i]? = some S[i] := List.getElem?_eq_getElem h
   have hsucc := List.take_succ_eq_append_getElem h
   obtain ⟨j, hj, hjf, hje⟩ := AAY (hS S[i] (List.getElem_mem h))
   have hRc : Rc l S l[j].id := hje ▸ .base (List.getElem_mem h)
   generalize S[i] = x at *
   simp -dsimp (disch := first | assumption | omega) only [↓AsZ, AsV, AsY, As0, eq_self, forall_const, Nat.reduceLT, Nat.reduceEqDiff, Nat.reduceSub, Nat.reduceMul, Nat.reduceMod, Nat.reduceDiv, Nat.reducePow, UInt8.reduceToNat, Int.reduceEq, Int.reduceLT, Int.reduceLE, ↓reduceIte, Nat.reduceAdd, Int.reduceToNat, reduceCtorEq, Nat.reduceLeDiff, ↓AtI, hg, Atx, Atg, Atr]
   refine (AHh l x (by omega)).calls rfl ?_
   rintro r rfl
   rw [hjf]
   have hml : j < m.length := by rw [hm.len]; exact hj
   have hmj : m[j]? = some m[j] := List.getElem?_eq_getElem hml
   simp -dsimp (disch := first | assumption | omega) only [↓AsZ, AsV, AsY, As0, eq_self, forall_const, Nat.reduceLT, Nat.reduceEqDiff, Nat.reduceSub, Nat.reduceMul, Nat.reduceMod, Nat.reduceDiv, Nat.reducePow, UInt8.reduceToNat, Int.reduceEq, Int.reduceLT, Int.reduceLE, ↓reduceIte, Nat.reduceAdd, Int.reduceToNat, reduceCtorEq, Nat.reduceLeDiff, ↓AtI, hmj]
   refine Atk (S.length - (i + 1)) (by omega) (by simp) ⟨i + 1, m.set j true, rfl, by omega, hm.set hj hRc, fun y hy k hk hke => ?_, rfl, ?_⟩
   ·rw [hsucc, List.mem_append, List.mem_singleton] at hy
    rcases hy with hy | rfl
    ·exact AQl.set hml k (hb y hy k hk hke)
    ·have h1 := AHa hv.nodup hk
     have h2 := AHa hv.nodup hj
     rw [hke] at h1; rw [hje, h1] at h2
     have h3 : k = j := by omega
     subst h3
     rw [List.getElem?_set_self hml]
   ·simp [tb]
  ·have hi2 : i = S.length := by omega
   rw [hi2, List.take_length] at hb
   clear hi2 hi
   simp -dsimp (disch := first | assumption | omega) only [↓AsZ, AsV, AsY, As0, eq_self, forall_const, Nat.reduceLT, Nat.reduceEqDiff, Nat.reduceSub, Nat.reduceMul, Nat.reduceMod, Nat.reduceDiv, Nat.reducePow, UInt8.reduceToNat, Int.reduceEq, Int.reduceLT, Int.reduceLE, ↓reduceIte, Nat.reduceAdd, Int.reduceToNat, reduceCtorEq, Nat.reduceLeDiff, ↓AtI]
   -- again and again
   refine Aua (fun q e H => ∃ (again : Bool) (m : List Bool), q = unm m + (if again then 1 else 0) ∧ ACq l S m ∧ (∀ x ∈ S, ∀ j (hj : j < l.length), l[j].id = x → m[j]? = some true) ∧
    (again = false → ∀ i (hi : i < l.length), m[i]? = some true → ∀ p ∈ l[i].ps, ∀ j (hj : j < l.length), l[j].id = p → m[j]? = some true) ∧
    e = [(0, .sl 22 (l.map ndT)), (5, .os 1 0 0 [] 0 l.length l.length), (8, tb again)] ∧ H = [.obj 0 (.arr l.length 1 (m.map tb))]) (unm m + 1) ?_ ?_
   ·exact ⟨true, m, rfl, hm, hb, by simp, rfl, rfl⟩
   ·clear hb hm
    rintro q e H ⟨again, m, rfl, hm, hb, hc, rfl, rfl⟩
    cases again with
    | false =>
     simp -dsimp (disch := first | assumption | omega) only [↓AsZ, AsV, AsY, As0, eq_self, forall_const, Nat.reduceLT, Nat.reduceEqDiff, Nat.reduceSub, Nat.reduceMul, Nat.reduceMod, Nat.reduceDiv, Nat.reducePow, UInt8.reduceToNat, Int.reduceEq, Int.reduceLT, Int.reduceLE, ↓reduceIte, Nat.reduceAdd, Int.reduceToNat, reduceCtorEq, Nat.reduceLeDiff, ↓AtI]
     rw [ANf hv hm hb (hc rfl)]
     have hlen : (Au9 l S).length = l.length := AxK
     have htk : (Au9 l S).take l.length = Au9 l S := List.take_of_length_le (by omega)
     simp -dsimp (disch := first | assumption | omega) only [↓AsZ, AsV, AsY, As0, eq_self, forall_const, Nat.reduceLT, Nat.reduceEqDiff, Nat.reduceSub, Nat.reduceMul, Nat.reduceMod, Nat.reduceDiv, Nat.reducePow, UInt8.reduceToNat, Int.reduceEq, Int.reduceLT, Int.reduceLE, ↓reduceIte, Nat.reduceAdd, Int.reduceToNat, reduceCtorEq, Nat.reduceLeDiff, ↓AtI, htk]
    | true =>
     clear hc
     simp -dsimp (disch := first | assumption | omega) only [↓AsZ, AsV, AsY, As0, eq_self, forall_const, Nat.reduceLT, Nat.reduceEqDiff, Nat.reduceSub, Nat.reduceMul, Nat.reduceMod, Nat.reduceDiv, Nat.reducePow, UInt8.reduceToNat, Int.reduceEq, Int.reduceLT, Int.reduceLE, ↓reduceIte, Nat.reduceAdd, Int.reduceToNat, reduceCtorEq, Nat.reduceLeDiff, ↓AtI]
     -- a pass
     refine Aua (fun q e H => ∃ (i : Nat) (again : Bool) (m' : List Bool), q = l.length - i ∧ i ≤ l.length ∧ ACq l S m' ∧ (∀ x ∈ S, ∀ j (hj : j < l.length), l[j].id = x → m'[j]? = some true) ∧ unm m' + (if again then 1 else 0) ≤ unm m ∧
      (again = false → ∀ k (hk : k < l.length), k < i → m'[k]? = some true → ∀ p ∈ l[k].ps, ∀ j (hj : j < l.length), l[j].id = p → m'[j]? = some true) ∧
      e = [(0, .sl 22 (l.map ndT)), (5, .os 1 0 0 [] 0 l.length l.length), (8, tb again), (9, i64 (i : Int))] ∧ H = [.obj 0 (.arr l.length 1 (m'.map tb))]) l.length ?_ ?_
     ·exact ⟨0, false, m, by simp, by simp, hm, hb, by simp, fun _ k _ hk => by omega, rfl, rfl⟩
     ·clear hb hm
      rintro q e H ⟨i, again, m', rfl, hi, hm, hb, hu, hc, rfl, rfl⟩
      by_cases h : i < l.length
      ·have hg : l[i]? = some l[i] := List.getElem?_eq_getElem h
       have hpi := hp l[i] (List.getElem_mem h)
       simp -dsimp (disch := first | assumption | omega) only [↓AsZ, AsV, AsY, As0, eq_self, forall_const, Nat.reduceLT, Nat.reduceEqDiff, Nat.reduceSub, Nat.reduceMul, Nat.reduceMod, Nat.reduceDiv, Nat.reducePow, UInt8.reduceToNat, Int.reduceEq, Int.reduceLT, Int.reduceLE, ↓reduceIte, Nat.reduceAdd, Int.reduceToNat, reduceCtorEq, Nat.reduceLeDiff, ↓AtI]
       -- the parents
       refine Aua (fun q e H => ∃ (k : Nat) (again : Bool) (m' : List Bool), q = l[i].ps.length - k ∧ k ≤ l[i].ps.length ∧ ACq l S m' ∧ (∀ x ∈ S, ∀ j (hj : j < l.length), l[j].id = x → m'[j]? = some true) ∧ unm m' + (if again then 1 else 0) ≤ unm m ∧
        (again = false → ∀ k (hk : k < l.length), k < i → m'[k]? = some true → ∀ p ∈ l[k].ps, ∀ j (hj : j < l.length), l[j].id = p → m'[j]? = some true) ∧
        (again = false → m'[i]? = some true → ∀ p ∈ l[i].ps.take k, ∀ j (hj : j < l.length), l[j].id = p → m'[j]? = some true) ∧
        e = [(0, .sl 22 (l.map ndT)), (5, .os 1 0 0 [] 0 l.length l.length), (8, tb again), (9, i64 (i : Int)), (10, i64 (k : Int))] ∧ H = [.obj 0 (.arr l.length 1 (m'.map tb))]) l[i].ps.length ?_ ?_
       ·exact ⟨0, again, m', by simp, by simp, hm, hb, hu, hc, by simp, rfl, rfl⟩
       ·clear hb hm hu hc
        rintro q e H ⟨k, again, m', rfl, hk, hm, hb, hu, hc, hd, rfl, rfl⟩
        have hml : i < m'.length := by rw [hm.len]; exact h
        have hmi : m'[i]? = some m'[i] := List.getElem?_eq_getElem hml
        by_cases h2 : k < l[i].ps.length ∧ m'[i] = true
        ·obtain ⟨h2, h3⟩ := h2
         rw [h3] at hmi
         have hg2 : l[i].ps[k]? = some l[i].ps[k] := List.getElem?_eq_getElem h2
         have hsucc := List.take_succ_eq_append_getElem h2
         obtain ⟨j, hj, hjf, hje⟩ := AAY (hv.there l[i] (List.getElem_mem h) l[i].ps[k] (List.getElem_mem h2))
         have hRc : Rc l S l[j].id := by
          rw [hje]
          exact .step (hm.sound i h hmi) (by rw [AIs hv.nodup (List.getElem_mem h)]; exact List.getElem_mem h2)
         have hjl : j < m'.length := by rw [hm.len]; exact hj
         have hmj : m'[j]? = some m'[j] := List.getElem?_eq_getElem hjl
         have huniq : ∀ j' (hj' : j' < l.length), l[j'].id = l[i].ps[k] → j' = j := fun j' hj' e => by
          have h1 := AHa hv.nodup hj'
          have h2 := AHa hv.nodup hj
          rw [e] at h1; rw [hje, h1] at h2; omega
         generalize hx : l[i].ps[k] = x at *
         generalize hn : l[i] = n at *
         simp -dsimp (disch := first | assumption | omega) only [↓AsZ, AsV, AsY, As0, eq_self, forall_const, Nat.reduceLT, Nat.reduceEqDiff, Nat.reduceSub, Nat.reduceMul, Nat.reduceMod, Nat.reduceDiv, Nat.reducePow, UInt8.reduceToNat, Int.reduceEq, Int.reduceLT, Int.reduceLE, ↓reduceIte, Nat.reduceAdd, Int.reduceToNat, reduceCtorEq, Nat.reduceLeDiff, ↓AtI, hg, hg2, hmi, AtN, Atx, Atg, Atr]
         refine (AHh l x (by omega)).calls rfl ?_
         rintro r rfl
         rw [hjf]
         cases hb2 : m'[j] with
         | true =>
          rw [hb2] at hmj
          simp -dsimp (disch := first | assumption | omega) only [↓AsZ, AsV, AsY, As0, eq_self, forall_const, Nat.reduceLT, Nat.reduceEqDiff, Nat.reduceSub, Nat.reduceMul, Nat.reduceMod, Nat.reduceDiv, Nat.reducePow, UInt8.reduceToNat, Int.reduceEq, Int.reduceLT, Int.reduceLE, ↓reduceIte, Nat.reduceAdd, Int.reduceToNat, reduceCtorEq, Nat.reduceLeDiff, ↓AtI, hmj]
          refine Atk (n.ps.length - (k + 1)) (by omega) (by simp) ⟨k + 1, again, m', rfl, by omega, hm, hb, hu, hc, fun ha hm2 p hp' j' hj' hje' => ?_, rfl, rfl⟩
          rw [hsucc, List.mem_append, List.mem_singleton] at hp'
          rcases hp' with hp' | rfl
          ·exact hd ha hm2 p hp' j' hj' hje'
          ·rw [huniq j' hj' hje']; exact hmj
         | false =>
          rw [hb2] at hmj
          have hlt := AVd hmj
          simp -dsimp (disch := first | assumption | omega) only [↓AsZ, AsV, AsY, As0, eq_self, forall_const, Nat.reduceLT, Nat.reduceEqDiff, Nat.reduceSub, Nat.reduceMul, Nat.reduceMod, Nat.reduceDiv, Nat.reducePow, UInt8.reduceToNat, Int.reduceEq, Int.reduceLT, Int.reduceLE, ↓reduceIte, Nat.reduceAdd, Int.reduceToNat, reduceCtorEq, Nat.reduceLeDiff, ↓AtI, hmj]
          refine Atk (n.ps.length - (k + 1)) (by omega) (by simp) ⟨k + 1, true, m'.set j true, rfl, by omega, hm.set hj hRc, fun y hy k' hk' hke' => AQl.set hjl k' (hb y hy k' hk' hke'), ?_, by simp, by simp, rfl, by simp [tb]⟩
          simp only [if_true]
          split at hu <;> omega
        ·have hdone : again = false → m'[i]? = some true → ∀ p ∈ l[i].ps, ∀ j (hj : j < l.length), l[j].id = p → m'[j]? = some true := fun ha hm2 => by
          have h3 : m'[i] = true := by rw [hm2] at hmi; simpa using hmi.symm
          have h4 : k = l[i].ps.length := by
           refine Classical.byContradiction fun hne => h2 ⟨by omega, h3⟩
          have := hd ha hm2
          rwa [h4, List.take_length] at this
         have hfin : ∃ (i' : Nat) (again' : Bool) (m2 : List Bool), l.length - (i + 1) = l.length - i' ∧ i' ≤ l.length ∧ ACq l S m2 ∧ (∀ x ∈ S, ∀ j (hj : j < l.length), l[j].id = x → m2[j]? = some true) ∧ unm m2 + (if again' then 1 else 0) ≤ unm m ∧
           (again' = false → ∀ k (hk : k < l.length), k < i' → m2[k]? = some true → ∀ p ∈ l[k].ps, ∀ j (hj : j < l.length), l[j].id = p → m2[j]? = some true) ∧
           [((0 : Nat), TV.sl 22 (l.map ndT)), (5, .os 1 0 0 [] 0 l.length l.length), (8, tb again), (9, i64 ((i + 1 : Nat) : Int))] = [(0, .sl 22 (l.map ndT)), (5, .os 1 0 0 [] 0 l.length l.length), (8, tb again'), (9, i64 (i' : Int))] ∧ [Ob.obj 0 (.arr l.length 1 (m'.map tb))] = [.obj 0 (.arr l.length 1 (m2.map tb))] := by
          refine ⟨i + 1, again, m', rfl, by omega, hm, hb, hu, fun ha k' hk' hki hm2 => ?_, rfl, rfl⟩
          by_cases e : k' = i
          ·subst e; exact hdone ha hm2
          ·exact hc ha k' hk' (by omega) hm2
         clear hdone hd
         by_cases h3 : k < l[i].ps.length
         ·have h4 : m'[i] = false := by
           cases hb4 : m'[i] with
           | false => rfl
           | true => exact absurd ⟨h3, hb4⟩ h2
          rw [h4] at hmi
          simp -dsimp (disch := first | assumption | omega) only [↓AsZ, AsV, AsY, As0, eq_self, forall_const, Nat.reduceLT, Nat.reduceEqDiff, Nat.reduceSub, Nat.reduceMul, Nat.reduceMod, Nat.reduceDiv, Nat.reducePow, UInt8.reduceToNat, Int.reduceEq, Int.reduceLT, Int.reduceLE, ↓reduceIte, Nat.reduceAdd, Int.reduceToNat, reduceCtorEq, Nat.reduceLeDiff, ↓AtI, hg, hmi, AtN]
          exact Atk (l.length - (i + 1)) (by omega) (by simp) hfin
         ·simp -dsimp (disch := first | assumption | omega) only [↓AsZ, AsV, AsY, As0, eq_self, forall_const, Nat.reduceLT, Nat.reduceEqDiff, Nat.reduceSub, Nat.reduceMul, Nat.reduceMod, Nat.reduceDiv, Nat.reducePow, UInt8.reduceToNat, Int.reduceEq, Int.reduceLT, Int.reduceLE, ↓reduceIte, Nat.reduceAdd, Int.reduceToNat, reduceCtorEq, Nat.reduceLeDiff, ↓AtI, hg, AtN]
          exact Atk (l.length - (i + 1)) (by omega) (by simp) hfin
      ·have hi2 : i = l.length := by omega
       simp -dsimp (disch := first | assumption | omega) only [↓AsZ, AsV, AsY, As0, eq_self, forall_const, Nat.reduceLT, Nat.reduceEqDiff, Nat.reduceSub, Nat.reduceMul, Nat.reduceMod, Nat.reduceDiv, Nat.reducePow, UInt8.reduceToNat, Int.reduceEq, Int.reduceLT, Int.reduceLE, ↓reduceIte, Nat.reduceAdd, Int.reduceToNat, reduceCtorEq, Nat.reduceLeDiff, ↓AtI]
       refine Atk (unm m' + (if again then 1 else 0)) (by omega) (by simp) ⟨again, m', rfl, hm, hb, fun ha k hk => hc ha k hk (by omega), rfl, rfl⟩
end Go.Proofs.YtingoaihnlhiaaaDoor


namespace Go.Proofs.YtingoaihnlhiaaaDoor
open Go.RowKit
variable [At3]
set_option linter.unusedSectionVars false
set_option linter.unusedVariables false
set_option linter.unusedSimpArgs false

mutual
/-- With other numbers. -/
def shT (n : Nat) : TV → TV
 | .op id ver p => .op (id + n) ver p
 | .os k id ver p off m cp => .os k (id + n) ver p off m cp
 | .mp id ver => .mp (id + n) ver
 | .yl id ver => .yl (id + n) ver
 | .agg cs => .agg (shL n cs)
 | .tup cs => .tup (shL n cs)
 | .ifc t x => .ifc t (shT n x)
 | .fn f a b => .fn f (shL n a) (shL n b)
 | .val v => .val v
 | .any => .any
 | .sl k cs => .sl k cs
 | .fp x => .fp x
 | .arr m k cs => .arr m k cs
def shL (n : Nat) : List TV → List TV
 | [] => []
 | x :: xs => shT n x :: shL n xs
end
def AMa (n : Nat) : List (List UInt8 × TV) → List (List UInt8 × TV)
 | [] => []
 | e :: es => (e.1, shT n e.2) :: AMa n es
def ATt (n : Nat) : List (Nat × List UInt8 × TV) → List (Nat × List UInt8 × TV)
 | [] => []
 | z :: zs => (z.1, z.2.1, shT n z.2.2) :: ATt n zs
def APG (n : Nat) : List (Nat × TV) → List (Nat × TV)
 | [] => []
 | e :: es => (e.1, shT n e.2) :: APG n es
def shO (n : Nat) : Ob → Ob
 | .obj v x => .obj v (shT n x)
 | .gone v => .gone v
 | .ice v m x => .ice v m (shT n x)
 | .fact i v t m => .fact (i + n) v t m
 | .lp st pend fn N e ps ca cb => .lp st pend fn N (APG n e) ps ca cb
 | .mpo kk es => .mpo kk (AMa n es)
 | .bld v t l => .bld v t l
 | .sit s pos => .sit s pos
 | .mpd kk zs cl => .mpd kk (ATt n zs) cl
 | .mit m sn cl => .mit (m + n) sn cl
theorem ACQ {n : Nat} {o : Ob} : (shO n o).ver = o.ver := by cases o <;> rfl
theorem AEi {n : Nat} {o : Ob} : (shO n o).live = o.live := by cases o <;> rfl
theorem AMw {n : Nat} {x : TV} {us : List Value} : mkV (shT n x) us = mkV x us := by cases x <;> simp only [shT, mkV]
theorem AKM {n : Nat} : ∀ {e : List (Nat × TV)} {s : Nat}, get (APG n e) s = shT n (get e s)
 | [], s => by rw [APG, get, shT]
 | (k, x) :: e, s => by
  rw [APG, get, get]
  by_cases h : k = s
  ·simp [h]
  ·simp only [h, if_false]; exact AKM
theorem AL6 {n : Nat} : ∀ {zs : List (Nat × List UInt8 × TV)}, (ATt n zs).map (·.2) = AMa n (zs.map (·.2))
 | [] => by rw [ATt, List.map_nil, AMa]
 | z :: zs => by rw [ATt, List.map_cons, List.map_cons, AMa, AL6]
theorem AJy {n : Nat} : ∀ {zs : List (Nat × List UInt8 × TV)}, (ATt n zs).map (·.1) = zs.map (·.1)
 | [] => by rw [ATt]
 | z :: zs => by rw [ATt, List.map_cons, List.map_cons, AJy]

structure AHS (c c' : Ctx) (n : Nat) : Prop where
 beta : ∀ id ver, c'.β (id + n) ver = c.β id ver
 has : ∀ id ver, c.has id ver → c'.has (id + n) ver
 keepF : ∀ b, c.F b → c'.F b
theorem AHS.bare {c c' : Ctx} {n : Nat} {w : World} (h : AHS c c' n) : Aw2 c.bare w c'.bare w := ⟨fun b hb => ⟨h.keepF b hb, rfl⟩, fun _ _ k => (Ctx.bare_has k).elim, fun _ _ => rfl⟩
mutual
theorem As1.shift {c c' : Ctx} {w : World} {n : Nat} (h : AHS c c' n) : ∀ {x : TV} {us : List Value}, As1 c w x us → As1 c' w (shT n x) us
 | .val y, us, hr => by rw [shT]; rw [As1] at hr ⊢; exact hr
 | .any, us, hr => by rw [shT]; rw [As1] at hr ⊢; exact hr
 | .sl k cs, us, hr => by
  rw [shT]; rw [As1] at hr ⊢
  obtain ⟨hk, hr⟩ := hr
  refine ⟨hk, ?_⟩
  rcases hr with hr | ⟨b, off, cap, vs, h1, h2, h3, h4, h5, h6⟩
  ·exact .inl hr
  ·exact .inr ⟨b, off, cap, vs, h1, h2, h3, h.keepF b h4, As3.mono h.bare h5, h6⟩
 | .fp x, us, hr => by
  rw [shT]; rw [As1] at hr ⊢
  obtain ⟨b, off, vs, h1, h4, h5, h6⟩ := hr
  exact ⟨b, off, vs, h1, h.keepF b h4, As1.mono h.bare h5, h6⟩
 | .op id ver p, us, hr => by
  rw [shT]; rw [As1] at hr ⊢
  exact ⟨h.has _ _ hr.1, by rw [h.beta]; exact hr.2⟩
 | .os k id ver p off m cp, us, hr => by
  rw [shT]; rw [As1] at hr ⊢
  exact ⟨h.has _ _ hr.1, by rw [h.beta]; exact hr.2⟩
 | .agg cs, us, hr => by rw [shT]; rw [As1] at hr ⊢; exact As3.shift h hr
 | .arr m k cs, us, hr => by rw [shT]; rw [As1] at hr ⊢; exact ⟨hr.1, hr.2.1, As3.mono h.bare hr.2.2⟩
 | .tup cs, us, hr => by rw [As1] at hr; exact hr.elim
 | .ifc t x, us, hr => by
  rw [shT]; rw [As1] at hr ⊢
  obtain ⟨u, h1, vs, h2, h3⟩ := hr
  exact ⟨u, h1, vs, As1.shift h h2, by rw [AMw]; exact h3⟩
 | .fn f a b, us, hr => by
  rw [shT]; rw [As1] at hr ⊢
  obtain ⟨as, bs, h1, h2, h3⟩ := hr
  exact ⟨as, bs, h1, AtF.shift h h2, AtF.shift h h3⟩
 | .mp id ver, us, hr => by
  rw [shT]; rw [As1] at hr ⊢
  exact ⟨h.has _ _ hr.1, by rw [h.beta]; exact hr.2⟩
 | .yl id ver, us, hr => by
  rw [shT]; rw [As1] at hr ⊢
  exact ⟨h.has _ _ hr.1, by rw [h.beta]; exact hr.2⟩
theorem As3.shift {c c' : Ctx} {w : World} {n : Nat} (h : AHS c c' n) : ∀ {xs : List TV} {us : List Value}, As3 c w xs us → As3 c' w (shL n xs) us
 | [], us, hr => by rw [shL]; rw [As3] at hr ⊢; exact hr
 | x :: xs, us, hr => by
  rw [shL]; rw [As3] at hr ⊢
  obtain ⟨a, b, h1, h2, h3⟩ := hr
  exact ⟨a, b, h1, As1.shift h h2, As3.shift h h3⟩
theorem AtF.shift {c c' : Ctx} {w : World} {n : Nat} (h : AHS c c' n) : ∀ {xs : List TV} {vs : List Value}, AtF c w xs vs → AtF c' w (shL n xs) vs
 | [], vs, hr => by rw [shL]; rw [AtF] at hr ⊢; exact hr
 | x :: xs, vs, hr => by
  rw [shL]; rw [AtF] at hr ⊢
  obtain ⟨u, us, h1, h2, h3⟩ := hr
  refine ⟨u, us, h1, ?_, AtF.shift h h3⟩
  rcases h2 with h2 | h2 | ⟨as, h2, h4⟩
  ·exact .inl (by rw [h2, shT])
  ·exact .inr (.inl (by rw [h2, shT]))
  ·exact .inr (.inr ⟨as, As1.shift h h2, by rw [AMw]; exact h4⟩)
end
theorem AJF.shift {c c' : Ctx} {w : World} {n : Nat} (h : AHS c c' n) {x : TV} {v : Value} (hr : AJF c w x v) : AJF c' w (shT n x) v := by
 rcases hr with h2 | h2 | ⟨as, h2, h4⟩
 ·exact .inl (by rw [h2, shT])
 ·exact .inr (.inl (by rw [h2, shT]))
 ·exact .inr (.inr ⟨as, As1.shift h h2, by rw [AMw]; exact h4⟩)
theorem Rep.shift {c c' : Ctx} {w : World} {n : Nat} (h : AHS c c' n) {x : TV} {v : Value} (hr : Rep c w x v) : Rep c' w (shT n x) v := by
 rcases hr with hr | ⟨xs, vs, h1, h2, h3⟩
 ·exact .inl (AJF.shift h hr)
 ·exact .inr ⟨shL n xs, vs, by rw [h1, shT], h2, AtF.shift h h3⟩
theorem Atj.shift {c c' : Ctx} {w : World} {n : Nat} (h : AHS c c' n) {kk : MK} : ∀ {es : List (List UInt8 × TV)} {ms : List MapEntry}, Atj c w kk es ms → Atj c' w kk (AMa n es) ms
 | [], ms, k => k
 | (q, x) :: es, ms, k => by
  obtain ⟨m, r, rfl, h1, h2, h3⟩ := k
  exact ⟨m, r, rfl, h1, ⟨As1.shift h h2.1, by rw [AMw]; exact h2.2⟩, Atj.shift h h3⟩
theorem AHL.shift {c c' : Ctx} {w : World} {n : Nat} (h : AHS c c' n) {id : Nat} {o : Ob} (k : AHL c w id o) : AHL c' w (id + n) (shO n o) := by
 cases o with
 | obj ver x =>
  rcases k with ⟨k1, k2⟩ | ⟨b, off, pre, vs, post, t, fr, k1, k2, k3, k4, k5⟩
  ·exact .inl ⟨(h.beta _ _).trans k1, As1.shift h k2⟩
  ·exact .inr ⟨b, off, pre, vs, post, t, fr, (h.beta _ _).trans k1, k2, k3, k4, As1.shift h k5⟩
 | gone v => exact k
 | ice ver m x =>
  obtain ⟨b, off, pre, vs, post, t, fr, k1, k2, k3, k4, k5⟩ := k
  exact ⟨b, off, pre, vs, post, t, fr, (h.beta _ _).trans k1, k2, k3, k4, As1.shift h k5⟩
 | fact i ver t m => exact ⟨h.has _ _ k.1, fun b o e => k.2 b o ((h.beta _ _).symm.trans e)⟩
 | bld ver t l =>
  rcases k with ⟨k1, k2⟩ | ⟨b, post, fr, k1, k2, k3⟩
  ·exact .inl ⟨(h.beta _ _).trans k1, k2⟩
  ·exact .inr ⟨b, post, fr, (h.beta _ _).trans k1, k2, k3⟩
 | lp st pend fn N e ps ca cb =>
  obtain ⟨b, tmps, D, k1, k2, k3, k4⟩ := k
  exact ⟨b, tmps, D, (h.beta _ _).trans k1, k2, k3, fun s => by rw [AKM]; exact Rep.shift h (k4 s)⟩
 | mpo kk es =>
  obtain ⟨b, ms, cl, k1, k2, k3, k4⟩ := k
  exact ⟨b, ms, cl, (h.beta _ _).trans k1, k2, Atj.shift h k3, k4⟩
 | sit s pos =>
  obtain ⟨b, k1, k2⟩ := k
  exact ⟨b, (h.beta _ _).trans k1, k2⟩
 | mpd kk zs cl =>
  obtain ⟨b, ms, k1, k2, k3, k4, k5⟩ := k
  exact ⟨b, ms, (h.beta _ _).trans k1, k2, by rw [AL6]; exact Atj.shift h k3, by rw [AJy]; exact k4, by rw [AJy]; exact k5⟩
 | mit m sn cl =>
  obtain ⟨r, b, k1, ⟨k2, k3⟩, k4⟩ := k
  exact ⟨r, b, (h.beta _ _).trans k1, ⟨h.has _ _ k2, (h.beta _ _).trans k3⟩, k4⟩

/-- WHAT A CALL DOES WHERE NO OBJECT IS, IT DOES AMONG OBJECTS: its own ones stand behind them. -/
theorem As7.behind {P : Program} {f : FuncId} {args : List TV} {R : TV → List Ob → Prop} {H : List Ob} {K : TV → List Ob → Prop} (h : As7 P f args [] R) (hp : Aub args = true) (hk : ∀ x H', R x H' → K (shT H.length x) (H ++ H'.map (shO H.length))) : As7 P f args H K := by
 intro β F w vs hs hv
 have hs0 : Sim ⟨β, [], F⟩ w := ⟨fun id o ho => by simp at ho, fun i j x y b o o' hx => by simp at hx, fun b hb => by obtain ⟨i, o, off, h1, _⟩ := hb; simp at h1, hs.lt, hs.glob⟩
 refine (h β F w vs hs0 (AtF.pure hp hv)).mono ?_
 rintro _ w' ⟨v, x, β0, H0, F', rfl, hR, hs', hl, hx⟩
 have hno : ∀ b, ¬ Ctx.own ⟨β, [], F⟩ b := fun b hb => by obtain ⟨i, o, off, h1, _⟩ := hb; simp at h1
 have hnew : ∀ b, Ctx.own ⟨β0, H0, F'⟩ b → w.heap.size ≤ b := fun b hb => Nat.le_of_not_lt fun hlt => hno b (hl.oldOwn b hlt hb)
 have hsame : ∀ b, b < w.heap.size → w'.heap[b]? = w.heap[b]? := fun b hb => hl.same b hb (hno b)
 have hst : ACc F w F' w' := ⟨hl.os, hl.tape, hl.output, hl.size, hsame, hl.keepF, fun b hb hF' => (hl.oldF b hb hF').resolve_right (hno b), hs'.lt⟩
 have hlow := hst.sim hs
 let β1 : Nat → Nat → Option (Nat × Nat) := fun i v => if i < H.length then β i v else β0 (i - H.length) v
 have b1 : ∀ i v, i < H.length → β1 i v = β i v := fun i v hi => if_pos hi
 have b2 : ∀ i v, β1 (i + H.length) v = β0 i v := fun i v => by
  show (if i + H.length < H.length then _ else _) = _
  rw [if_neg (by omega), Nat.add_sub_cancel]
 have g1 : ∀ i, i < H.length → (H ++ H0.map (shO H.length))[i]? = H[i]? := fun i hi => List.getElem?_append_left hi
 have g2 : ∀ i, (H ++ H0.map (shO H.length))[i + H.length]? = (H0[i]?).map (shO H.length) := fun i => by
  rw [List.getElem?_append_right (by omega), Nat.add_sub_cancel, List.getElem?_map]
 have hsh : AHS ⟨β0, H0, F'⟩ ⟨β1, H ++ H0.map (shO H.length), F'⟩ H.length := ⟨b2, fun id ver ⟨o, k1, k2⟩ => ⟨shO H.length o, by show (H ++ H0.map (shO H.length))[id + H.length]? = _; rw [g2]; have k1' : H0[id]? = some o := k1; rw [k1']; rfl, by rw [ACQ]; exact k2⟩, fun b hb => hb⟩
 have hlt : ∀ {id : Nat} {o : Ob}, H[id]? = some o → id < H.length := fun k => (List.getElem?_eq_some_iff.1 k).1
 have hm : Aw2 ⟨β, H, F'⟩ w' ⟨β1, H ++ H0.map (shO H.length), F'⟩ w' := ⟨fun b hb => ⟨hb, rfl⟩, fun id ver ⟨o, k1, k2⟩ => ⟨⟨o, (g1 id (hlt k1)).trans k1, k2⟩, b1 id ver (hlt k1)⟩, fun _ _ => rfl⟩
 -- each object is an old one or a new one
 have two : ∀ (i : Nat) o, (H ++ H0.map (shO H.length))[i]? = some o → (i < H.length ∧ H[i]? = some o) ∨ ∃ j q, i = j + H.length ∧ H0[j]? = some q ∧ o = shO H.length q := fun i o ho => by
  by_cases hi : i < H.length
  ·exact .inl ⟨hi, (g1 i hi).symm.trans ho⟩
  ·obtain ⟨j, rfl⟩ : ∃ j, i = j + H.length := ⟨i - H.length, by omega⟩
   rw [g2] at ho
   obtain ⟨q, hq, rfl⟩ := Option.map_eq_some_iff.1 ho
   exact .inr ⟨j, q, rfl, hq, rfl⟩
 have ownlow : ∀ {i : Nat} {o : Ob} {b off : Nat}, H[i]? = some o → o.live = true → β i o.ver = some (b, off) → b < w.heap.size := fun k1 k2 k3 => hs.own_lt ⟨_, _, _, k1, k2, k3⟩
 have ownnew : ∀ {i : Nat} {o : Ob} {b off : Nat}, H0[i]? = some o → o.live = true → β0 i o.ver = some (b, off) → w.heap.size ≤ b := fun k1 k2 k3 => hnew _ ⟨_, _, _, k1, k2, k3⟩
 refine ⟨v, shT H.length x, β1, H ++ H0.map (shO H.length), F', rfl, hk x H0 hR, ⟨fun id o ho => ?_, fun i j x y b o o' hx hy lx ly ex ey => ?_, fun b hb hF => ?_, hs'.lt, hs'.glob⟩, ⟨hl.os, hl.tape, hl.output, hl.size, fun id ver ⟨o, k1, k2⟩ => ⟨⟨o, (g1 id (hlt k1)).trans k1, k2⟩, b1 id ver (hlt k1)⟩, hl.shape, fun b hb _ => hsame b hb, hl.keepF, fun b hb hF => .inl (hst.oldF b hb hF), fun b hb ho => ?_⟩, Rep.shift hsh hx⟩
 ·rcases two id o ho with ⟨hi, k⟩ | ⟨j, q, rfl, k, rfl⟩
  ·exact AHL.mono hm ⟨o, k, Nat.le_refl _⟩ (fun _ _ _ _ => rfl) (hlow.ob id o k)
  ·exact AHL.shift hsh (hs'.ob j q k)
 ·rcases two i x hx with ⟨hi, k⟩ | ⟨i', q, rfl, k, rfl⟩ <;> rcases two j y hy with ⟨hj, k'⟩ | ⟨j', q', rfl, k', rfl⟩
  ·rw [show (Ctx.mk β1 (H ++ H0.map (shO H.length)) F').β i x.ver = β i x.ver from b1 _ _ hi] at ex
   rw [show (Ctx.mk β1 (H ++ H0.map (shO H.length)) F').β j y.ver = β j y.ver from b1 _ _ hj] at ey
   exact hs.inj i j x y b o o' k k' lx ly ex ey
  ·rw [show (Ctx.mk β1 (H ++ H0.map (shO H.length)) F').β i x.ver = β i x.ver from b1 _ _ hi] at ex
   rw [show (Ctx.mk β1 (H ++ H0.map (shO H.length)) F').β (j' + H.length) (shO H.length q').ver = β0 j' (shO H.length q').ver from b2 _ _, ACQ] at ey
   rw [AEi] at ly
   have a1 := ownlow k lx ex
   have a2 := ownnew k' ly ey
   omega
  ·rw [show (Ctx.mk β1 (H ++ H0.map (shO H.length)) F').β (i' + H.length) (shO H.length q).ver = β0 i' (shO H.length q).ver from b2 _ _, ACQ] at ex
   rw [show (Ctx.mk β1 (H ++ H0.map (shO H.length)) F').β j y.ver = β j y.ver from b1 _ _ hj] at ey
   rw [AEi] at lx
   have a1 := ownlow k' ly ey
   have a2 := ownnew k lx ex
   omega
  ·rw [show (Ctx.mk β1 (H ++ H0.map (shO H.length)) F').β (i' + H.length) (shO H.length q).ver = β0 i' (shO H.length q).ver from b2 _ _, ACQ] at ex
   rw [show (Ctx.mk β1 (H ++ H0.map (shO H.length)) F').β (j' + H.length) (shO H.length q').ver = β0 j' (shO H.length q').ver from b2 _ _, ACQ] at ey
   rw [AEi] at lx ly
   rw [hs'.inj i' j' q q' b o o' k k' lx ly ex ey]
 ·obtain ⟨i, o, off, k1, k2, k3⟩ := hb
  rcases two i o k1 with ⟨hi, k⟩ | ⟨j, q, rfl, k, rfl⟩
  ·rw [show (Ctx.mk β1 (H ++ H0.map (shO H.length)) F').β i o.ver = β i o.ver from b1 _ _ hi] at k3
   exact hlow.apart b ⟨i, o, off, k, k2, k3⟩ hF
  ·rw [show (Ctx.mk β1 (H ++ H0.map (shO H.length)) F').β (j + H.length) (shO H.length q).ver = β0 j (shO H.length q).ver from b2 _ _, ACQ] at k3
   rw [AEi] at k2
   exact hs'.apart b ⟨j, q, off, k, k2, k3⟩ hF
 ·obtain ⟨i, o, off, k1, k2, k3⟩ := ho
  rcases two i o k1 with ⟨hi, k⟩ | ⟨j, q, rfl, k, rfl⟩
  ·rw [show (Ctx.mk β1 (H ++ H0.map (shO H.length)) F').β i o.ver = β i o.ver from b1 _ _ hi] at k3
   exact ⟨i, o, off, k, k2, k3⟩
  ·rw [show (Ctx.mk β1 (H ++ H0.map (shO H.length)) F').β (j + H.length) (shO H.length q).ver = β0 j (shO H.length q).ver from b2 _ _, ACQ] at k3
   rw [AEi] at k2
   have := ownnew k k2 k3
   omega
end Go.Proofs.YtingoaihnlhiaaaDoor


namespace Go.Proofs.YtingoaihnlhiaaaDoor
open Go.RowKit
variable [At3]
set_option linter.unusedSectionVars false
set_option linter.unusedVariables false
set_option linter.unusedSimpArgs false

/-- Less, by bytes. -/
def ltB (a b : List UInt8) : Prop := a < b
theorem AU4 (a b : List UInt8) : Op.bytesLess a b = decide (a < b) := bytesLess_eq a b
theorem AxL (a : List UInt8) : ¬ ltB a a := List.lt_irrefl a
theorem Aw8 {a b c : List UInt8} (h : ltB a b) (k : ltB b c) : ltB a c := List.lt_trans h k
theorem AFU {a b : List UInt8} (h1 : ¬ ltB a b) (h2 : ¬ ltB b a) : a = b := List.le_antisymm (List.not_lt.1 h2) (List.not_lt.1 h1)
instance (a b : List UInt8) : Decidable (ltB a b) := inferInstanceAs (Decidable (a < b))

/-- Sorted, each once. -/
abbrev SD (l : List (List UInt8)) : Prop := l.Pairwise ltB
theorem SD.ext : ∀ {a b : List (List UInt8)}, SD a → SD b → (∀ x, x ∈ a ↔ x ∈ b) → a = b
 | [], [], _, _, _ => rfl
 | [], y :: b, _, _, h => absurd ((h y).2 (by simp)) (by simp)
 | x :: a, [], _, _, h => absurd ((h x).1 (by simp)) (by simp)
 | x :: a, y :: b, ha, hb, h => by
  rw [SD, List.pairwise_cons] at ha hb
  have hxy : x = y := by
   rcases List.mem_cons.1 ((h x).1 (by simp)) with e | e
   ·exact e
   ·rcases List.mem_cons.1 ((h y).2 (by simp)) with e2 | e2
    ·exact e2.symm
    ·exact absurd (Aw8 (ha.1 y e2) (hb.1 x e)) (AxL x)
  subst hxy
  congr 1
  refine SD.ext ha.2 hb.2 fun z => ⟨fun hz => ?_, fun hz => ?_⟩
  ·rcases List.mem_cons.1 ((h z).1 (List.mem_cons_of_mem _ hz)) with e | e
   ·subst e; exact absurd (ha.1 z hz) (AxL z)
   ·exact e
  ·rcases List.mem_cons.1 ((h z).2 (List.mem_cons_of_mem _ hz)) with e | e
   ·subst e; exact absurd (hb.1 z hz) (AxL z)
   ·exact e
theorem SD.nodup {l : List (List UInt8)} (h : SD l) : l.Nodup := List.Pairwise.imp (fun h e => by subst e; exact AxL _ h) h
theorem SD.filter {l : List (List UInt8)} (h : SD l) (p : List UInt8 → Bool) : SD (l.filter p) := List.Pairwise.filter p h
/-- One more, at the place behind all that are less. -/
theorem SD.insert {out : List (List UInt8)} (h : SD out) {x : List UInt8} {at' : Nat} (hle : at' ≤ out.length) (h1 : ∀ (k : Nat) y, k < at' → out[k]? = some y → ltB y x) (h2 : ∀ y, out[at']? = some y → ¬ ltB y x ∧ y ≠ x) : SD (out.take at' ++ [x] ++ out.drop at') ∧ ∀ z, z ∈ out.take at' ++ [x] ++ out.drop at' ↔ z = x ∨ z ∈ out := by
 have hmem : ∀ z, z ∈ out.take at' ++ [x] ++ out.drop at' ↔ z = x ∨ z ∈ out := by
  intro z
  conv => rhs; rw [← List.take_append_drop at' out]
  simp only [List.mem_append, List.mem_singleton]
  constructor
  ·rintro ((h | h) | h)
   ·exact .inr (.inl h)
   ·exact .inl h
   ·exact .inr (.inr h)
  ·rintro (h | h | h)
   ·exact .inl (.inr h)
   ·exact .inl (.inl h)
   ·exact .inr h
 refine ⟨?_, hmem⟩
 have hT : ∀ y ∈ out.take at', ltB y x := by
  intro y hy
  obtain ⟨k, hk⟩ := List.getElem?_of_mem hy
  rw [List.getElem?_take] at hk
  split at hk
  ·exact h1 k y (by assumption) hk
  ·cases hk
 have hD : ∀ y ∈ out.drop at', ltB x y := by
  intro y hy
  obtain ⟨k, hk⟩ := List.getElem?_of_mem hy
  rw [List.getElem?_drop] at hk
  have hlt : at' < out.length := by have := (List.getElem?_eq_some_iff.1 hk).1; omega
  obtain ⟨h3, h4⟩ := h2 _ (List.getElem?_eq_getElem hlt)
  have h5 : ltB x out[at'] := by
   by_cases e : ltB x out[at']
   ·exact e
   ·exact absurd (AFU h3 e) h4
  rcases Nat.eq_zero_or_pos k with rfl | hp
  ·rw [Nat.add_zero, List.getElem?_eq_getElem hlt] at hk; cases hk; exact h5
  ·have hlt2 := (List.getElem?_eq_some_iff.1 hk).1
   have h6 := (List.pairwise_iff_getElem.1 h) at' (at' + k) hlt hlt2 (by omega)
   rw [List.getElem?_eq_getElem hlt2] at hk; cases hk
   exact Aw8 h5 h6
 have hsub := h.sublist (List.take_sublist at' out)
 have hsub2 := h.sublist (List.drop_sublist at' out)
 rw [SD, List.pairwise_append, List.pairwise_append]
 refine ⟨⟨hsub, by simp, fun a ha b hb => ?_⟩, hsub2, fun a ha b hb => ?_⟩
 ·rw [List.mem_singleton.1 hb]; exact hT a ha
 ·rcases List.mem_append.1 ha with ha | ha
  ·exact Aw8 (hT a ha) (hD b hb)
  ·rw [List.mem_singleton.1 ha]; exact hD b hb

/-- Each once, of a row whose equal ones stand side by side. -/
def dd : List (List UInt8) → List (List UInt8)
 | [] => []
 | [x] => [x]
 | x :: y :: l => if x = y then dd (y :: l) else x :: dd (y :: l)
theorem AIq : ∀ {l : List (List UInt8)} (z : List UInt8), z ∈ dd l ↔ z ∈ l
 | [], z => by rw [dd]
 | [x], z => by rw [dd]
 | x :: y :: l, z => by
  rw [dd]
  split
  ·rename_i e; subst e
   rw [AIq (l := x :: l)]; simp
  ·rw [List.mem_cons, AIq (l := y :: l), List.mem_cons (a := z) (b := x)]
theorem AOu : ∀ {l : List (List UInt8)}, l.Pairwise (fun a b => ¬ ltB b a) → SD (dd l)
 | [], _ => by rw [dd]; exact List.Pairwise.nil
 | [x], _ => by rw [dd]; exact List.pairwise_singleton _ _
 | x :: y :: l, h => by
  rw [dd]
  have h' := List.pairwise_cons.1 h
  split
  ·exact AOu h'.2
  ·rename_i e
   rw [SD, List.pairwise_cons]
   refine ⟨fun z hz => ?_, AOu h'.2⟩
   rw [AIq] at hz
   have hxy : ltB x y := by
    by_cases k : ltB x y
    ·exact k
    ·exact absurd (AFU k (h'.1 y (by simp))) e
   rcases List.mem_cons.1 hz with rfl | hz2
   ·exact hxy
   ·by_cases k : ltB y z
    ·exact Aw8 hxy k
    ·have k2 : ¬ ltB z y := (List.pairwise_cons.1 h'.2).1 z hz2
     rw [← AFU k k2]; exact hxy
theorem AOI : ∀ {a b : List UInt8}, Lib.compareBytes a b < 0 ↔ ltB a b
 | [], [] => by simp [Lib.compareBytes, ltB]
 | [], _ :: _ => by simp [Lib.compareBytes, ltB]
 | _ :: _, [] => by simp [Lib.compareBytes, ltB]
 | a :: xs, b :: ys => by
  have ih := AOI (a := xs) (b := ys)
  unfold ltB at ih ⊢
  rw [Lib.compareBytes, List.cons_lt_cons_iff]
  by_cases h1 : a < b
  ·simp [h1]
  ·by_cases h2 : b < a
   ·have hne : a ≠ b := fun e => by subst e; exact h1 h2
    simp [h1, h2, hne]
   ·have he : a = b := UInt8.le_antisymm (UInt8.not_lt.1 h2) (UInt8.not_lt.1 h1)
    rw [if_neg h1, if_neg h2, ih]
    simp [h1, he]
end Go.Proofs.YtingoaihnlhiaaaDoor


namespace Go.Proofs.YtingoaihnlhiaaaDoor
open Go.RowKit
variable [At3]
set_option linter.unusedSectionVars false
set_option linter.unusedVariables false
set_option autoImplicit false

theorem Rc.trans {l : List Nd} {S : List (List UInt8)} {x y : List UInt8} (h : Rc l S x) (k : Rc l [x] y) : Rc l S y := Rc.mono (fun z hz => by rw [List.mem_singleton.1 hz]; exact h) k
/-- What is reached is reached from one of them. -/
theorem Rc.one {l : List Nd} {S : List (List UInt8)} {x : List UInt8} (h : Rc l S x) : ∃ s ∈ S, Rc l [s] x := by
 induction h with
 | base h1 => exact ⟨_, h1, .base (by simp)⟩
 | step h1 h2 ih => obtain ⟨s, hs, hr⟩ := ih; exact ⟨s, hs, .step hr h2⟩
/-- From one: it itself, or what its parents reach. -/
theorem Rc.first {l : List Nd} {s x : List UInt8} (h : Rc l [s] x) : x = s ∨ Rc l (pOf l s) x := by
 induction h with
 | base h1 => exact .inl (List.mem_singleton.1 h1)
 | step h1 h2 ih =>
  rcases ih with rfl | ih
  ·exact .inr (.base h2)
  ·exact .inr (.step ih h2)
theorem Rc.up {l : List Nd} {s x : List UInt8} (h : Rc l (pOf l s) x) : Rc l [s] x := Rc.mono (fun y hy => .step (.base (by simp)) hy) h
/-- What the parents of some reach: of these it is what another one reaches. -/
theorem AJK {l : List Nd} (hok : GOk l) {D : List (List UInt8)} (hD : ∀ x ∈ D, x ∈ Atf l) {s : List UInt8} (hs : s ∈ D) : Rc l (D.flatMap (pOf l)) s ↔ ∃ k ∈ D, k ≠ s ∧ Rc l [k] s := by
 constructor
 ·intro h
  obtain ⟨p, hp, hr⟩ := Rc.one h
  obtain ⟨k, hk, hpk⟩ := List.mem_flatMap.1 hp
  have h1 : Rc l (pOf l k) s := Rc.mono (fun z hz => by rw [List.mem_singleton.1 hz]; exact .base hpk) hr
  refine ⟨k, hk, ?_, Rc.up h1⟩
  rintro rfl
  obtain ⟨n, hn, rfl⟩ := List.mem_map.1 (hD k hk)
  rw [AIs hok.1.nodup hn] at h1
  exact hok.2 ⟨n, hn, h1⟩
 ·rintro ⟨k, hk, hne, h⟩
  rcases Rc.first h with e | h
  ·exact absurd e.symm hne
  ·exact Rc.mono (fun z hz => .base (List.mem_flatMap.2 ⟨k, hk, hz⟩)) h

/-- A SEARCH: what was seen, and what is still to be seen. -/
structure AGk (l : List Nd) (S seen todo : List (List UInt8)) : Prop where
 hseen : ∀ x ∈ seen, Rc l S x
 htodo : ∀ x ∈ todo, Rc l S x
 all : ∀ x ∈ S, x ∈ seen ∨ x ∈ todo
 next : ∀ x ∈ seen, ∀ y ∈ pOf l x, y ∈ seen ∨ y ∈ todo
 nodup : seen.Nodup
theorem AGk.start {l : List Nd} {S : List (List UInt8)} : AGk l S [] S := ⟨by simp, fun x h => .base h, fun x h => .inr h, by simp, List.nodup_nil⟩
theorem AGk.skip {l : List Nd} {S seen todo : List (List UInt8)} {x : List UInt8} (h : AGk l S seen (todo ++ [x])) (hx : x ∈ seen) : AGk l S seen todo :=
 ⟨h.hseen, fun y hy => h.htodo y (List.mem_append_left _ hy), fun y hy => by
  rcases h.all y hy with k | k
  ·exact .inl k
  ·rcases List.mem_append.1 k with k | k
   ·exact .inr k
   ·rw [List.mem_singleton.1 k]; exact .inl hx, fun z hz y hy => by
  rcases h.next z hz y hy with k | k
  ·exact .inl k
  ·rcases List.mem_append.1 k with k | k
   ·exact .inr k
   ·rw [List.mem_singleton.1 k]; exact .inl hx, h.nodup⟩
theorem AGk.take {l : List Nd} {S seen todo : List (List UInt8)} {x : List UInt8} (h : AGk l S seen (todo ++ [x])) (hx : ¬ x ∈ seen) : AGk l S (seen ++ [x]) (todo ++ pOf l x) :=
 ⟨fun y hy => by
  rcases List.mem_append.1 hy with k | k
  ·exact h.hseen y k
  ·rw [List.mem_singleton.1 k]; exact h.htodo x (by simp), fun y hy => by
  rcases List.mem_append.1 hy with k | k
  ·exact h.htodo y (List.mem_append_left _ k)
  ·exact .step (h.htodo x (by simp)) k, fun y hy => by
  rcases h.all y hy with k | k
  ·exact .inl (List.mem_append_left _ k)
  ·rcases List.mem_append.1 k with k | k
   ·exact .inr (List.mem_append_left _ k)
   ·exact .inl (List.mem_append_right _ k), fun z hz y hy => by
  rcases List.mem_append.1 hz with hz | hz
  ·rcases h.next z hz y hy with k | k
   ·exact .inl (List.mem_append_left _ k)
   ·rcases List.mem_append.1 k with k | k
    ·exact .inr (List.mem_append_left _ k)
    ·exact .inl (List.mem_append_right _ k)
  ·rw [List.mem_singleton.1 hz] at hy
   exact .inr (List.mem_append_right _ hy), by
  rw [List.nodup_append]
  exact ⟨h.nodup, by simp, fun a ha b hb e => by rw [List.mem_singleton] at hb; subst hb; subst e; exact hx ha⟩⟩
theorem AGk.done {l : List Nd} {S seen : List (List UInt8)} (h : AGk l S seen []) (x : List UInt8) : x ∈ seen ↔ Rc l S x := by
 constructor
 ·exact h.hseen x
 ·intro k
  induction k with
  | base h1 => exact (h.all _ h1).resolve_right (by simp)
  | step h1 h2 ih => exact (h.next _ ih _ h2).resolve_right (by simp)
/-- How long it may go on: what may still be laid up. -/
def AGk.left (l : List Nd) (seen todo : List (List UInt8)) : Nat := todo.length + ((l.filter fun n => !seen.contains n.id).map fun n => n.ps.length + 1).sum
theorem AGk.le {l : List Nd} (hn : (Atf l).Nodup) {seen todo : List (List UInt8)} {n : Nd} (hnl : n ∈ l) (hx : ¬ n.id ∈ seen) : AGk.left l (seen ++ [n.id]) (todo ++ n.ps) < AGk.left l seen (todo ++ [n.id]) := by
 unfold AGk.left
 simp only [List.length_append, List.length_singleton]
 have key : ∀ (m : List Nd), (Atf m).Nodup → n ∈ m → ((m.filter fun q => !(seen ++ [n.id]).contains q.id).map fun q => q.ps.length + 1).sum + (n.ps.length + 1) = ((m.filter fun q => !seen.contains q.id).map fun q => q.ps.length + 1).sum := by
  intro m
  induction m with
  | nil => intro _ h; cases h
  | cons a m ih =>
   intro hnd hm
   rw [Atf, List.map_cons, List.nodup_cons] at hnd
   rcases List.mem_cons.1 hm with rfl | hm
   ·have e1 : (!(seen ++ [n.id]).contains n.id) = false := by simp
    have e2 : (!seen.contains n.id) = true := by simpa using hx
    rw [List.filter_cons_of_neg (by rw [e1]; simp), List.filter_cons_of_pos (by rw [e2])]
    rw [List.map_cons, List.sum_cons]
    have e3 : (m.filter fun q => !(seen ++ [n.id]).contains q.id) = m.filter fun q => !seen.contains q.id := by
     refine List.filter_congr fun q hq => ?_
     have hne : q.id ≠ n.id := fun e => hnd.1 (e ▸ List.mem_map.2 ⟨q, hq, rfl⟩)
     simp [hne]
    rw [e3]; omega
   ·have hne : a.id ≠ n.id := fun e => hnd.1 (e ▸ List.mem_map.2 ⟨n, hm, rfl⟩)
    have ih' := ih hnd.2 hm
    by_cases ha : a.id ∈ seen
    ·rw [List.filter_cons_of_neg (by simp [ha]), List.filter_cons_of_neg (by simp [ha])]
     exact ih'
    ·rw [List.filter_cons_of_pos (by simp [ha, hne]), List.filter_cons_of_pos (by simp [ha]), List.map_cons, List.map_cons, List.sum_cons, List.sum_cons]
     omega
 have := key l hn hnl
 omega
end Go.Proofs.YtingoaihnlhiaaaDoor


namespace Go.Proofs.YtingoaihnlhiaaaDoor
open Go.RowKit
variable [At3]
set_option linter.unusedSectionVars false
set_option linter.unusedVariables false
set_option linter.unusedSimpArgs false

noncomputable def AYr (l : List Nd) : Nat := @ite _ (GOk l) (Classical.propDecidable _) 0 80
theorem AJA {l : List Nd} (h : GOk l) : AYr l = 0 := by unfold AYr; rw [if_pos h]
theorem AFG {l : List Nd} (h : ¬ GOk l) : AYr l = 80 := by unfold AYr; rw [if_neg h]
/-- Each is the first one of its id. -/
theorem AKu {l : List Nd} (h : ∀ i (hi : i < l.length), fnd l l[i].id = i) : (Atf l).Nodup := by
 rw [List.nodup_iff_pairwise_ne, List.pairwise_iff_getElem]
 intro i j hi hj hij e
 rw [Atf, List.length_map] at hi hj
 simp only [Atf, List.getElem_map] at e
 have h1 := h i hi
 have h2 := h j hj
 rw [e, h2] at h1
 omega
theorem AOc (l : List Nd) (hl : l.length ≤ 1000) (hp : ∀ n ∈ l, n.ps.length ≤ 1000) : Avl Tryd.prog 27 [.sl 22 (l.map ndT)] (fun r => r = i64 ((AYr l : Nat) : Int)) := by
 refine As7.toPureV (AIO (by simp) ?_)
 simp -dsimp (disch := first | assumption | omega) only [↓AsZ, AsV, AsY, As0, eq_self, forall_const, Nat.reduceLT, Nat.reduceEqDiff, Nat.reduceSub, Nat.reduceMul, Nat.reduceMod, Nat.reduceDiv, Nat.reducePow, UInt8.reduceToNat, Int.reduceEq, Int.reduceLT, Int.reduceLE, ↓reduceIte, Nat.reduceAdd, Int.reduceToNat, reduceCtorEq, Nat.reduceLeDiff, ↓AtU]
 refine Aua (fun q e H => ∃ i : Nat, q = l.length - i ∧ i ≤ l.length ∧ (∀ k (hk : k < l.length), k < i → fnd l l[k].id = k ∧ ∀ p ∈ l[k].ps, p ∈ Atf l) ∧ e = [(0, .sl 22 (l.map ndT)), (3, i64 (i : Int))] ∧ H = []) l.length ?_ ?_
 ·exact ⟨0, by simp, by simp, fun k _ hk => by omega, rfl, rfl⟩
 ·rintro q e H ⟨i, rfl, hi, h0, rfl, rfl⟩
  by_cases h : i < l.length
  ·have hg : l[i]? = some l[i] := List.getElem?_eq_getElem h
   have hpi := hp l[i] (List.getElem_mem h)
   simp -dsimp (disch := first | assumption | omega) only [↓AsZ, AsV, AsY, As0, eq_self, forall_const, Nat.reduceLT, Nat.reduceEqDiff, Nat.reduceSub, Nat.reduceMul, Nat.reduceMod, Nat.reduceDiv, Nat.reducePow, UInt8.reduceToNat, Int.reduceEq, Int.reduceLT, Int.reduceLE, ↓reduceIte, Nat.reduceAdd, Int.reduceToNat, reduceCtorEq, Nat.reduceLeDiff, ↓AtU, hg, AtN]
   refine (AHh l l[i].id (by omega)).calls rfl ?_
   rintro r rfl
   obtain ⟨j, hj, hjf, hje⟩ := AAY (Ay6 (List.getElem_mem h))
   by_cases hji : j = i
   ·subst hji
    generalize hn : l[j] = n at *
    rw [hjf]
    simp -dsimp (disch := first | assumption | omega) only [↓AsZ, AsV, AsY, As0, eq_self, forall_const, Nat.reduceLT, Nat.reduceEqDiff, Nat.reduceSub, Nat.reduceMul, Nat.reduceMod, Nat.reduceDiv, Nat.reducePow, UInt8.reduceToNat, Int.reduceEq, Int.reduceLT, Int.reduceLE, ↓reduceIte, Nat.reduceAdd, Int.reduceToNat, reduceCtorEq, Nat.reduceLeDiff, ↓AtU, hg, AtN]
    refine Aua (fun q e H => ∃ k : Nat, q = n.ps.length - k ∧ k ≤ n.ps.length ∧ (∀ p ∈ n.ps.take k, p ∈ Atf l) ∧ e = [(0, .sl 22 (l.map ndT)), (3, i64 (j : Int)), (4, i64 (k : Int))] ∧ H = []) n.ps.length ?_ ?_
    ·exact ⟨0, by simp, by simp, by simp, rfl, rfl⟩
    ·rintro q e H ⟨k, rfl, hk, h1, rfl, rfl⟩
     by_cases h2 : k < n.ps.length
     ·have hg2 : n.ps[k]? = some n.ps[k] := List.getElem?_eq_getElem h2
      have hsucc := List.take_succ_eq_append_getElem h2
      have hmem := List.getElem_mem h2
      have hneg := AUD (l := l) (x := n.ps[k])
      generalize n.ps[k] = x at *
      simp -dsimp (disch := first | assumption | omega) only [↓AsZ, AsV, AsY, As0, eq_self, forall_const, Nat.reduceLT, Nat.reduceEqDiff, Nat.reduceSub, Nat.reduceMul, Nat.reduceMod, Nat.reduceDiv, Nat.reducePow, UInt8.reduceToNat, Int.reduceEq, Int.reduceLT, Int.reduceLE, ↓reduceIte, Nat.reduceAdd, Int.reduceToNat, reduceCtorEq, Nat.reduceLeDiff, ↓AtU, hg, hg2, AtN, Atx, Atg, Atr]
      refine (AHh l x (by omega)).calls rfl ?_
      rintro r rfl
      by_cases hx : x ∈ Atf l
      ·obtain ⟨m, _, hmf, _⟩ := AAY hx
       rw [hmf]
       simp -dsimp (disch := first | assumption | omega) only [↓AsZ, AsV, AsY, As0, eq_self, forall_const, Nat.reduceLT, Nat.reduceEqDiff, Nat.reduceSub, Nat.reduceMul, Nat.reduceMod, Nat.reduceDiv, Nat.reducePow, UInt8.reduceToNat, Int.reduceEq, Int.reduceLT, Int.reduceLE, ↓reduceIte, Nat.reduceAdd, Int.reduceToNat, reduceCtorEq, Nat.reduceLeDiff, ↓AtU]
       refine Atk (n.ps.length - (k + 1)) (by omega) (by simp) ⟨k + 1, rfl, by omega, fun p hp' => ?_, rfl, rfl⟩
       rw [hsucc, List.mem_append, List.mem_singleton] at hp'
       rcases hp' with hp' | rfl
       ·exact h1 p hp'
       ·exact hx
      ·have hfx : fnd l x = -1 := by
        unfold fnd
        rw [if_neg (fun ⟨m, hm, e⟩ => hx (e ▸ Ay6 hm))]
       rw [hfx, AFG fun hok => hx (hok.1.there n (hn ▸ List.getElem_mem h) x hmem)]
       simp -dsimp (disch := first | assumption | omega) only [↓AsZ, AsV, AsY, As0, eq_self, forall_const, Nat.reduceLT, Nat.reduceEqDiff, Nat.reduceSub, Nat.reduceMul, Nat.reduceMod, Nat.reduceDiv, Nat.reducePow, UInt8.reduceToNat, Int.reduceEq, Int.reduceLT, Int.reduceLE, ↓reduceIte, Nat.reduceAdd, Int.reduceToNat, reduceCtorEq, Nat.reduceLeDiff, ↓AtU]
     ·have hk2 : k = n.ps.length := by omega
      rw [hk2, List.take_length] at h1
      simp -dsimp (disch := first | assumption | omega) only [↓AsZ, AsV, AsY, As0, eq_self, forall_const, Nat.reduceLT, Nat.reduceEqDiff, Nat.reduceSub, Nat.reduceMul, Nat.reduceMod, Nat.reduceDiv, Nat.reducePow, UInt8.reduceToNat, Int.reduceEq, Int.reduceLT, Int.reduceLE, ↓reduceIte, Nat.reduceAdd, Int.reduceToNat, reduceCtorEq, Nat.reduceLeDiff, ↓AtU, hg, AtN]
      refine Atk (l.length - (j + 1)) (by omega) (by simp) ⟨j + 1, rfl, by omega, fun k' hk' hkj => ?_, rfl, rfl⟩
      by_cases e : k' = j
      ·subst e; rw [hn]; exact ⟨hjf, h1⟩
      ·exact h0 k' hk' (by omega)
   ·rw [hjf, AFG fun hok => hji (by have := AHa hok.1.nodup h; rw [hjf] at this; omega)]
    simp -dsimp (disch := first | assumption | omega) only [↓AsZ, AsV, AsY, As0, eq_self, forall_const, Nat.reduceLT, Nat.reduceEqDiff, Nat.reduceSub, Nat.reduceMul, Nat.reduceMod, Nat.reduceDiv, Nat.reducePow, UInt8.reduceToNat, Int.reduceEq, Int.reduceLT, Int.reduceLE, ↓reduceIte, Nat.reduceAdd, Int.reduceToNat, reduceCtorEq, Nat.reduceLeDiff, ↓AtU]
  ·have hv : AKd l := ⟨AKu fun k hk => (h0 k hk (by omega)).1, fun n hn p hp' => by
    obtain ⟨k, hk, rfl⟩ := List.mem_iff_getElem.1 hn
    exact (h0 k hk (by omega)).2 p hp'⟩
   simp -dsimp (disch := first | assumption | omega) only [↓AsZ, AsV, AsY, As0, eq_self, forall_const, Nat.reduceLT, Nat.reduceEqDiff, Nat.reduceSub, Nat.reduceMul, Nat.reduceMod, Nat.reduceDiv, Nat.reducePow, UInt8.reduceToNat, Int.reduceEq, Int.reduceLT, Int.reduceLE, ↓reduceIte, Nat.reduceAdd, Int.reduceToNat, reduceCtorEq, Nat.reduceLeDiff, ↓AtU]
   refine Aua (fun q e H => ∃ i : Nat, q = l.length - i ∧ i ≤ l.length ∧ (∀ k (hk : k < l.length), k < i → ¬ Rc l l[k].ps l[k].id) ∧ e = [(0, .sl 22 (l.map ndT)), (6, i64 (i : Int))] ∧ H = []) l.length ?_ ?_
   ·exact ⟨0, by simp, by simp, fun k _ hk => by omega, rfl, rfl⟩
   ·clear h0 h hi
    rintro q e H ⟨i, rfl, hi, h0, rfl, rfl⟩
    by_cases h : i < l.length
    ·have hg : l[i]? = some l[i] := List.getElem?_eq_getElem h
     have hpi := hp l[i] (List.getElem_mem h)
     have hmem := List.getElem_mem h
     simp -dsimp (disch := first | assumption | omega) only [↓AsZ, AsV, AsY, As0, eq_self, forall_const, Nat.reduceLT, Nat.reduceEqDiff, Nat.reduceSub, Nat.reduceMul, Nat.reduceMod, Nat.reduceDiv, Nat.reducePow, UInt8.reduceToNat, Int.reduceEq, Int.reduceLT, Int.reduceLE, ↓reduceIte, Nat.reduceAdd, Int.reduceToNat, reduceCtorEq, Nat.reduceLeDiff, ↓AtU, hg, AtN]
     refine (AKU l l[i].ps hv hl (hv.there _ hmem) (fun n hn => by have := hp n hn; omega) (by omega)).calls rfl ?_
     rintro r rfl
     have hget := AB4 (l := l) (S := l[i].ps) h
     have hrl : (Au9 l l[i].ps).length = l.length := AxK
     by_cases hr : Rc l l[i].ps l[i].id
     ·rw [AFG fun hok => hok.2 ⟨_, hmem, hr⟩]
      have hm := hget.2 hr
      simp -dsimp (disch := first | assumption | omega) only [↓AsZ, AsV, AsY, As0, eq_self, forall_const, Nat.reduceLT, Nat.reduceEqDiff, Nat.reduceSub, Nat.reduceMul, Nat.reduceMod, Nat.reduceDiv, Nat.reducePow, UInt8.reduceToNat, Int.reduceEq, Int.reduceLT, Int.reduceLE, ↓reduceIte, Nat.reduceAdd, Int.reduceToNat, reduceCtorEq, Nat.reduceLeDiff, ↓AtU, hm]
     ·have hm : (Au9 l l[i].ps)[i]? = some false := by
       have h1 : (Au9 l l[i].ps)[i]? = some (Au9 l l[i].ps)[i] := List.getElem?_eq_getElem (by omega)
       cases hb : (Au9 l l[i].ps)[i] with
       | false => rw [h1, hb]
       | true => exact absurd (hget.1 (by rw [h1, hb])) hr
      simp -dsimp (disch := first | assumption | omega) only [↓AsZ, AsV, AsY, As0, eq_self, forall_const, Nat.reduceLT, Nat.reduceEqDiff, Nat.reduceSub, Nat.reduceMul, Nat.reduceMod, Nat.reduceDiv, Nat.reducePow, UInt8.reduceToNat, Int.reduceEq, Int.reduceLT, Int.reduceLE, ↓reduceIte, Nat.reduceAdd, Int.reduceToNat, reduceCtorEq, Nat.reduceLeDiff, ↓AtU, hm]
      refine Atk (l.length - (i + 1)) (by omega) (by simp) ⟨i + 1, rfl, by omega, fun k hk hki => ?_, rfl, rfl⟩
      by_cases e : k = i
      ·subst e; exact hr
      ·exact h0 k hk (by omega)
    ·rw [AJA ⟨hv, fun ⟨n, hn, hr⟩ => by
      obtain ⟨k, hk, rfl⟩ := List.mem_iff_getElem.1 hn
      exact h0 k hk (by omega) hr⟩]
     simp -dsimp (disch := first | assumption | omega) only [↓AsZ, AsV, AsY, As0, eq_self, forall_const, Nat.reduceLT, Nat.reduceEqDiff, Nat.reduceSub, Nat.reduceMul, Nat.reduceMod, Nat.reduceDiv, Nat.reducePow, UInt8.reduceToNat, Int.reduceEq, Int.reduceLT, Int.reduceLE, ↓reduceIte, Nat.reduceAdd, Int.reduceToNat, reduceCtorEq, Nat.reduceLeDiff, ↓AtU]
end Go.Proofs.YtingoaihnlhiaaaDoor


namespace Go.Proofs.YtingoaihnlhiaaaDoor
open Go.RowKit
variable [At3]
set_option linter.unusedSectionVars false
set_option linter.unusedVariables false
set_option autoImplicit false

theorem AQh {k l : List UInt8} {x : TV} : ∀ {es : List (List UInt8 × TV)}, Aw4 k (AwI l x es) = if l = k then some x else Aw4 k es
 | [] => by simp [AwI, Aw4]
 | (q, y) :: es => by
  rw [AwI]
  by_cases hq : q = l
  ·subst hq
   rw [if_pos rfl, Aw4, Aw4]
   by_cases h : q = k <;> simp [h]
  ·rw [if_neg hq, Aw4, Aw4, AQh]
   by_cases h : q = k
   ·subst h; rw [if_pos rfl, if_neg (fun e => hq e.symm), if_pos rfl]
   ·rw [if_neg h, if_neg h]
theorem AJq {k : List UInt8} {x : TV} : ∀ {es : List (List UInt8 × TV)}, (AwI k x es)[AES k es]? = some (k, x)
 | [] => by simp [AwI, AES]
 | (q, y) :: es => by
  rw [AwI, AES]
  by_cases hq : q = k
  ·subst hq; simp
  ·rw [if_neg hq, if_neg hq, List.getElem?_cons_succ, AJq]
theorem AGI {k : List UInt8} {x y : TV} : ∀ {es : List (List UInt8 × TV)}, (AwI k x es).set (AES k es) (k, y) = AwI k y es
 | [] => by simp [AwI, AES]
 | (q, z) :: es => by
  rw [AwI, AES]
  by_cases hq : q = k
  ·subst hq; simp [AwI]
  ·rw [if_neg hq, if_neg hq, List.set_cons_succ, AGI, AwI, if_neg hq]
theorem pr1 {α β : Type} {a : α} {b : β} : (a, b).1 = a := by simp
theorem pr2 {α β : Type} {a : α} {b : β} : (a, b).2 = b := by simp
theorem AMs {k : List UInt8} {x : TV} : ∀ {es : List (List UInt8 × TV)}, (AwI k x es).length = es.length + if k ∈ es.map (·.1) then 0 else 1
 | [] => by simp [AwI]
 | (q, y) :: es => by
  rw [AwI]
  by_cases hq : q = k
  ·subst hq; simp
  ·rw [if_neg hq, List.length_cons, AMs]
   have : ¬ k = q := fun e => hq e.symm
   simp only [List.map_cons, List.mem_cons, this, false_or, List.length_cons]
   omega
theorem AJr {k : List UInt8} {x : TV} : ∀ {es : List (List UInt8 × TV)}, ¬ k ∈ es.map (·.1) → AwI k x es = es ++ [(k, x)]
 | [], _ => by simp [AwI]
 | (q, y) :: es, h => by
  rw [List.map_cons, List.mem_cons, not_or] at h
  rw [AwI, if_neg (fun e => h.1 e.symm), AJr h.2, List.cons_append]
theorem AJ8 {k : List UInt8} {x : TV} : ∀ {es : List (List UInt8 × TV)} (y : List UInt8), y ∈ (AwI k x es).map (·.1) ↔ y = k ∨ y ∈ es.map (·.1)
 | [], y => by simp [AwI]
 | (q, z) :: es, y => by
  rw [AwI]
  by_cases hq : q = k
  ·subst hq; simp
  ·rw [if_neg hq, List.map_cons, List.mem_cons, AJ8, List.map_cons, List.mem_cons]
   simp only []
   constructor
   ·rintro (h | h | h)
    ·exact .inr (.inl h)
    ·exact .inl h
    ·exact .inr (.inr h)
   ·rintro (h | h | h)
    ·exact .inr (.inl h)
    ·exact .inl h
    ·exact .inr (.inr h)

theorem AGQ {α : Type} {P : List α → Prop} (h0 : P []) (hs : ∀ l a, P l → P (l ++ [a])) (l : List α) : P l := by
 have key : ∀ r : List α, P r.reverse := by
  intro r
  induction r with
  | nil => exact h0
  | cons a r ih => rw [List.reverse_cons]; exact hs _ _ ih
 have := key l.reverse
 rwa [List.reverse_reverse] at this
/-- Nodes by their ids, as they are laid in, one by one. -/
def Atz (l : List Nd) : List (List UInt8 × TV) := l.foldl (fun es n => AwI n.id (ndT n) es) []
theorem AxO {l : List Nd} {n : Nd} : Atz (l ++ [n]) = AwI n.id (ndT n) (Atz l) := by simp [Atz]
theorem ALG {l : List Nd} : ∀ y, y ∈ (Atz l).map (·.1) ↔ y ∈ Atf l := by
 refine AGQ (P := fun l => ∀ y, y ∈ (Atz l).map (·.1) ↔ y ∈ Atf l) ?_ ?_ l
 ·simp [Atz, Atf]
 ·intro l n ih y
  rw [AxO, AJ8, ih]
  simp [Atf, or_comm]
theorem AyE {l : List Nd} : (Atz l).length ≤ l.length ∧ ((Atz l).length = l.length ↔ (Atf l).Nodup) ∧ ((Atf l).Nodup → Atz l = l.map fun n => (n.id, ndT n)) := by
 refine AGQ (P := fun l => (Atz l).length ≤ l.length ∧ ((Atz l).length = l.length ↔ (Atf l).Nodup) ∧ ((Atf l).Nodup → Atz l = l.map fun n => (n.id, ndT n))) ?_ ?_ l
 ·simp [Atz, Atf]
 ·intro l n ih
  obtain ⟨h1, h2, h3⟩ := ih
  have hk := ALG (l := l) n.id
  have hlen := AMs (k := n.id) (x := ndT n) (es := Atz l)
  rw [AxO, List.length_append, List.length_singleton]
  have hnd : (Atf (l ++ [n])).Nodup ↔ (Atf l).Nodup ∧ ¬ n.id ∈ Atf l := by
   have e : Atf (l ++ [n]) = Atf l ++ [n.id] := by simp [Atf]
   rw [e, List.nodup_append]
   constructor
   ·rintro ⟨g1, _, g2⟩
    exact ⟨g1, fun hm => g2 _ hm _ (by simp) rfl⟩
   ·rintro ⟨g1, g2⟩
    exact ⟨g1, by simp, fun a ha b hb => by rw [List.mem_singleton] at hb; subst hb; exact fun e => g2 (e ▸ ha)⟩
  by_cases hm : n.id ∈ Atf l
  ·rw [if_pos (hk.2 hm)] at hlen
   refine ⟨by omega, ⟨fun e => by omega, fun e => absurd hm (hnd.1 e).2⟩, fun e => absurd hm (hnd.1 e).2⟩
  ·rw [if_neg (fun h => hm (hk.1 h))] at hlen
   refine ⟨by omega, ⟨fun e => hnd.2 ⟨h2.1 (by omega), hm⟩, fun e => by have := h2.2 (hnd.1 e).1; omega⟩, fun e => ?_⟩
   rw [AJr (fun h => hm (hk.1 h)), h3 (hnd.1 e).1]
   simp
theorem AKS {l : List Nd} {x : List UInt8} : Aw4 x (l.map fun n => (n.id, ndT n)) = (l.find? fun n => n.id == x).map ndT := by
 induction l with
 | nil => rfl
 | cons n l ih =>
  rw [List.map_cons, Aw4, List.find?_cons]
  by_cases h : n.id = x
  ·simp [h]
  ·have : (n.id == x) = false := by simpa using h
   rw [if_neg h, this, ih]
theorem AyA {l : List Nd} (hn : (Atf l).Nodup) {n : Nd} (h : n ∈ l) : Aw4 n.id (Atz l) = some (ndT n) := by
 rw [AyE.2.2 hn, AKS]
 obtain ⟨i, hi, rfl⟩ := List.mem_iff_getElem.1 h
 have : (l.find? fun m => m.id == l[i].id) = some l[i] := by
  rw [List.find?_eq_some_iff_getElem]
  refine ⟨by simp, i, hi, rfl, fun j hj => ?_⟩
  have := AHa hn hi
  have hne : ¬ l[j].id = l[i].id := fun e => by
   have h2 := AHa hn (i := j) (by omega)
   rw [e] at h2; omega
  simpa using hne
 rw [this]; rfl
theorem AHy {l : List Nd} {x : List UInt8} (h : ¬ x ∈ Atf l) (hn : (Atf l).Nodup) : Aw4 x (Atz l) = none := by
 rw [AyE.2.2 hn, AKS, Option.map_eq_none_iff, List.find?_eq_none]
 intro n hnl
 have : ¬ n.id = x := fun e => h (e ▸ Ay6 hnl)
 simpa using this

/-- No entry refers to an object. -/
def AyT (es : List (List UInt8 × TV)) : Prop := ∀ g, Au6 g (es.map (·.2)) = true
theorem AyT.put {es : List (List UInt8 × TV)} (h : AyT es) {k : List UInt8} {x : TV} (hx : ∀ g, Avi g x = true) : AyT (AwI k x es) := by
 intro g
 have h1 := h g
 clear h
 induction es with
 | nil => rw [AwI, List.map_cons, Au6, hx g]; rfl
 | cons e es ih =>
  obtain ⟨q, y⟩ := e
  rw [List.map_cons, Au6, Bool.and_eq_true] at h1
  rw [AwI]
  split
  ·rw [List.map_cons, Au6, hx g, h1.2]; rfl
  ·rw [List.map_cons, Au6, h1.1, ih h1.2]; rfl
theorem AyT.nil : AyT [] := fun g => rfl
theorem AuX {l : List Nd} : AyT (Atz l) := by
 refine AGQ (P := fun l => AyT (Atz l)) AyT.nil (fun l n ih => ?_) l
 rw [AxO]
 exact ih.put fun g => by rw [AtN]; rfl
/-- A map that counts. -/
def AK0 (es : List (List UInt8 × TV)) (f : List UInt8 → Nat) : Prop := ∀ y, (Aw4 y es).getD (i64 ((0 : Nat) : Int)) = i64 ((f y : Nat) : Int)
theorem AK0.put {es : List (List UInt8 × TV)} {f : List UInt8 → Nat} (h : AK0 es f) (p : List UInt8) (n : Nat) : AK0 (AwI p (i64 ((n : Nat) : Int)) es) (fun y => if p = y then n else f y) := by
 intro y
 rw [AQh]
 by_cases e : p = y
 ·simp [e]
 ·simp only [if_neg e]; exact h y
theorem AK0.congr {es : List (List UInt8 × TV)} {f g : List UInt8 → Nat} (h : AK0 es f) (e : ∀ y, g y = f y) : AK0 es g := fun y => by rw [e]; exact h y
theorem AK0.nil : AK0 [] (fun _ => 0) := fun y => by rw [Aw4]; rfl

theorem AU7 {l : List Nd} (hp : ∀ n ∈ l, n.ps.length ≤ 1000) (d : List (List UInt8)) (y : List UInt8) : kids l d y ≤ 1000 * l.length := by
 unfold kids
 refine Nat.le_trans List.count_le_length ?_
 rw [List.length_flatMap]
 induction l with
 | nil => simp
 | cons n l ih =>
  have h1 := ih fun m hm => hp m (by simp [hm])
  have h2 := hp n (by simp)
  rw [List.filter_cons, List.length_cons]
  split
  ·rw [List.map_cons, List.sum_cons]; omega
  ·omega
theorem ASo {l : List Nd} {y : List UInt8} : kids l [] y = (l.flatMap (·.ps)).count y := by
 unfold kids
 rw [List.filter_eq_self.2 (by simp)]
end Go.Proofs.YtingoaihnlhiaaaDoor


namespace Go.Proofs.YtingoaihnlhiaaaDoor
open Go.RowKit
variable [At3]
set_option linter.unusedSectionVars false
set_option linter.unusedVariables false
set_option linter.unusedSimpArgs false

theorem AOO {n : Nd} : Atd (ndT n) = 22 := by rw [AtN]; rfl
theorem ARe {cs : List TV} {off m : Nat} {x : List UInt8} {fr : List (List UInt8)} (h : (cs.drop off).take (m + 1) = (x :: fr).map idT) : cs[off]? = some (idT x) ∧ (cs.drop (off + 1)).take m = fr.map idT := by
 have h0 : ((cs.drop off).take (m + 1))[0]? = some (idT x) := by rw [h]; rfl
 rw [List.getElem?_take, if_pos (by omega), List.getElem?_drop, Nat.add_zero] at h0
 refine ⟨h0, ?_⟩
 have h1 := congrArg (List.drop 1) h
 rw [List.drop_take, List.drop_drop] at h1
 simpa using h1

theorem AJx {l : List Nd} {n : Nd} {g : Nat} : Au6 g ((AwI n.id (TV.agg [TV.arr 20 1 (n.id.map by8), TV.sl 20 (n.ps.map idT), i64 n.tm]) (Atz l)).map (·.2)) = true := (AuX.put (x := TV.agg _) fun g => rfl) g
abbrev ADo : Ob := .obj 0 (.agg [.mp 0 0, .val (.map none)])
theorem A0k (l : List Nd) (hl : l.length ≤ 1000) (hp : ∀ n ∈ l, n.ps.length ≤ 1000) : As7 Tryd.prog 35 [.sl 22 (l.map ndT)] [] (fun x H' =>
  (GOk l → x = .tup [.op 1 0 [], .val .nilIface] ∧ ∃ es o, H' = [.mpo (.arr 20) (Atz l), ADo, .mpo (.arr 20) es, o]) ∧ (¬ GOk l → x = .tup [.val (.pointer none), .ifc 36 (i64 ((80 : Nat) : Int))])) := by
 refine AJj (by simp) ?_
 simp -dsimp (disch := first | assumption | omega) only [↓AsZ, AsV, AsY, As0, eq_self, forall_const, Nat.reduceLT, Nat.reduceEqDiff, Nat.reduceSub, Nat.reduceMul, Nat.reduceMod, Nat.reduceDiv, Nat.reducePow, UInt8.reduceToNat, Int.reduceEq, Int.reduceLT, Int.reduceLE, ↓reduceIte, Nat.reduceAdd, Int.reduceToNat, reduceCtorEq, Nat.reduceLeDiff, ↓Att]
 -- the nodes
 refine Aua (fun q e H => ∃ i : Nat, q = l.length - i ∧ i ≤ l.length ∧ e = [(0, .sl 22 (l.map ndT)), (4, .op 1 0 []), (26, .sl 22 (l.map ndT)), (27, i64 (l.length : Int)), (28, i64 (i : Int))] ∧ H = [.mpo (.arr 20) (Atz (l.take i)), ADo]) l.length ?_ ?_
 ·exact ⟨0, by simp, by simp, rfl, by simp [Atz]⟩
 ·rintro q e H ⟨i, rfl, hi, rfl, rfl⟩
  by_cases h : i < l.length
  ·have hg : l[i]? = some l[i] := List.getElem?_eq_getElem h
   have hsucc := List.take_succ_eq_append_getElem h
   generalize l[i] = n at *
   simp -dsimp (disch := first | assumption | omega) only [↓AsZ, AsV, AsY, As0, eq_self, forall_const, Nat.reduceLT, Nat.reduceEqDiff, Nat.reduceSub, Nat.reduceMul, Nat.reduceMod, Nat.reduceDiv, Nat.reducePow, UInt8.reduceToNat, Int.reduceEq, Int.reduceLT, Int.reduceLE, ↓reduceIte, Nat.reduceAdd, Int.reduceToNat, reduceCtorEq, Nat.reduceLeDiff, ↓Att, hg, AtN]
   refine Ayp (l.length - (i + 1)) 2 (by omega) (by simp) rfl (by simp [Axt, Az8, Avi, Au6, AuX _, AJx]) ⟨i + 1, rfl, by omega, rfl, ?_⟩
   rw [hsucc, AxO, AtN]; rfl
  ·have hi2 : i = l.length := by omega
   rw [hi2, List.take_length]
   clear hi2 hi
   by_cases hn : (Atf l).Nodup
   case neg =>
    have h1 := (AyE (l := l)).1
    have h2 : ¬ (Atz l).length = l.length := fun e => hn (AyE.2.1.1 e)
    have h3 : (Atz l).length < l.length := by omega
    have hno : ¬ GOk l := fun hok => hn hok.1.nodup
    simp -dsimp (disch := first | assumption | omega) only [↓AsZ, AsV, AsY, As0, eq_self, forall_const, Nat.reduceLT, Nat.reduceEqDiff, Nat.reduceSub, Nat.reduceMul, Nat.reduceMod, Nat.reduceDiv, Nat.reducePow, UInt8.reduceToNat, Int.reduceEq, Int.reduceLT, Int.reduceLE, ↓reduceIte, Nat.reduceAdd, Int.reduceToNat, reduceCtorEq, Nat.reduceLeDiff, ↓Att]
    exact ⟨fun hok => absurd hok hno, by simp⟩
   have hlen : (Atz l).length = l.length := AyE.2.1.2 hn
   simp -dsimp (disch := first | assumption | omega) only [↓AsZ, AsV, AsY, As0, eq_self, forall_const, Nat.reduceLT, Nat.reduceEqDiff, Nat.reduceSub, Nat.reduceMul, Nat.reduceMod, Nat.reduceDiv, Nat.reducePow, UInt8.reduceToNat, Int.reduceEq, Int.reduceLT, Int.reduceLE, ↓reduceIte, Nat.reduceAdd, Int.reduceToNat, reduceCtorEq, Nat.reduceLeDiff, ↓Att, hlen]
   -- who names whom
   refine Aua (fun q e H => ∃ (i : Nat) (es : List (List UInt8 × TV)) (f : List UInt8 → Nat), q = l.length - i ∧ i ≤ l.length ∧ (AK0 es f ∧ AyT es) ∧ (∀ y, f y = ((l.take i).flatMap (·.ps)).count y) ∧ (∀ y, f y ≤ 1000 * i) ∧ (∀ n ∈ l.take i, ∀ p ∈ n.ps, p ∈ Atf l) ∧
    e = [(0, .sl 22 (l.map ndT)), (4, .op 1 0 []), (7, .mp 2 0), (55, .sl 22 (l.map ndT)), (56, i64 (l.length : Int)), (57, i64 (i : Int))] ∧ H = [.mpo (.arr 20) (Atz l), ADo, .mpo (.arr 20) es]) l.length ?_ ?_
   ·exact ⟨0, [], fun _ => 0, by simp, by simp, ⟨AK0.nil, AyT.nil⟩, by simp, by simp, by simp, rfl, rfl⟩
   ·clear h i
    rintro q e H ⟨i, es, f, rfl, hi, ⟨hc, hbm⟩, hf, hb, hv, rfl, rfl⟩
    by_cases h : i < l.length
    ·have hg : l[i]? = some l[i] := List.getElem?_eq_getElem h
     have hsucc := List.take_succ_eq_append_getElem h
     have hpi := hp l[i] (List.getElem_mem h)
     have hmem := List.getElem_mem h
     generalize l[i] = n at *
     simp -dsimp (disch := first | assumption | omega) only [↓AsZ, AsV, AsY, As0, eq_self, forall_const, Nat.reduceLT, Nat.reduceEqDiff, Nat.reduceSub, Nat.reduceMul, Nat.reduceMod, Nat.reduceDiv, Nat.reducePow, UInt8.reduceToNat, Int.reduceEq, Int.reduceLT, Int.reduceLE, ↓reduceIte, Nat.reduceAdd, Int.reduceToNat, reduceCtorEq, Nat.reduceLeDiff, ↓Att, hg, AtN]
     refine Aua (fun q e H => ∃ (k : Nat) (es : List (List UInt8 × TV)) (f' : List UInt8 → Nat), q = n.ps.length - k ∧ k ≤ n.ps.length ∧ (AK0 es f' ∧ AyT es) ∧ (∀ y, f' y = f y + (n.ps.take k).count y) ∧ (∀ y, f' y ≤ 1000 * i + k) ∧ (∀ p ∈ n.ps.take k, p ∈ Atf l) ∧
      e = [(0, .sl 22 (l.map ndT)), (4, .op 1 0 []), (7, .mp 2 0), (55, .sl 22 (l.map ndT)), (56, i64 (l.length : Int)), (57, i64 (i : Int)), (62, .sl 20 (n.ps.map idT)), (63, i64 (n.ps.length : Int)), (64, i64 (k : Int))] ∧ H = [.mpo (.arr 20) (Atz l), ADo, .mpo (.arr 20) es, .obj 0 (ndT n)]) n.ps.length ?_ ?_
     ·exact ⟨0, es, f, by simp, by simp, ⟨hc, hbm⟩, by simp, by simpa using hb, by simp, rfl, by rw [AtN]⟩
     ·clear hc hbm
      rintro q e H ⟨k, es, f', rfl, hk, ⟨hc, hbm⟩, hf2, hb2, hv2, rfl, rfl⟩
      by_cases h2 : k < n.ps.length
      ·have hg2 : n.ps[k]? = some n.ps[k] := List.getElem?_eq_getElem h2
       have hsucc2 := List.take_succ_eq_append_getElem h2
       have hpm := List.getElem_mem h2
       generalize n.ps[k] = p at *
       have hcp := hc p
       have hbp := hb2 p
       by_cases hpl : p ∈ Atf l
       ·obtain ⟨m, hm, hme⟩ := List.mem_map.1 hpl
        have hlook : Aw4 p (Atz l) = some (ndT m) := by rw [← hme]; exact AyA hn hm
        simp -dsimp (disch := first | assumption | omega) only [↓AsZ, AsV, AsY, As0, eq_self, forall_const, Nat.reduceLT, Nat.reduceEqDiff, Nat.reduceSub, Nat.reduceMul, Nat.reduceMod, Nat.reduceDiv, Nat.reducePow, UInt8.reduceToNat, Int.reduceEq, Int.reduceLT, Int.reduceLE, ↓reduceIte, Nat.reduceAdd, Int.reduceToNat, reduceCtorEq, Nat.reduceLeDiff, ↓Att, hg2, Ate, hlook, AtN, Option.isSome_some, Option.isSome_none]
        simp -dsimp (disch := first | assumption | omega) only [↓AsZ, AsV, AsY, As0, eq_self, forall_const, Nat.reduceLT, Nat.reduceEqDiff, Nat.reduceSub, Nat.reduceMul, Nat.reduceMod, Nat.reduceDiv, Nat.reducePow, UInt8.reduceToNat, Int.reduceEq, Int.reduceLT, Int.reduceLE, ↓reduceIte, Nat.reduceAdd, Int.reduceToNat, reduceCtorEq, Nat.reduceLeDiff, ↓Att, hcp, AJq, AGI, pr1, pr2]
        refine Ayp (n.ps.length - (k + 1)) 4 (by omega) (by simp) rfl (by simp [Axt, Az8, Avi, Au6, AuX _, hbm _, AtN, Ate, (hbm.put (x := .val (.int .i64 ((f' p : Nat) + 1 : Int))) fun g => rfl) 4]) ⟨k + 1, _, _, rfl, by omega, ⟨hc.put p (f' p + 1), hbm.put fun g => rfl⟩, fun y => ?_, fun y => ?_, fun y hy => ?_, rfl, by rw [AtN]; rfl⟩
        ·rw [hsucc2, List.count_append, ← Nat.add_assoc, ← hf2 y]
         by_cases e : p = y
         ·subst e; simp
         ·simp [e]
        ·have := hb2 y
         by_cases e : p = y
         ·subst e; simp; omega
         ·simp [e]; omega
        ·rw [hsucc2, List.mem_append, List.mem_singleton] at hy
         rcases hy with hy | rfl
         ·exact hv2 y hy
         ·exact hpl
       ·have hlook := AHy hpl hn
        have hno : ¬ GOk l := fun hok => hpl (hok.1.there n hmem p hpm)
        simp -dsimp (disch := first | assumption | omega) only [↓AsZ, AsV, AsY, As0, eq_self, forall_const, Nat.reduceLT, Nat.reduceEqDiff, Nat.reduceSub, Nat.reduceMul, Nat.reduceMod, Nat.reduceDiv, Nat.reducePow, UInt8.reduceToNat, Int.reduceEq, Int.reduceLT, Int.reduceLE, ↓reduceIte, Nat.reduceAdd, Int.reduceToNat, reduceCtorEq, Nat.reduceLeDiff, ↓Att, hg2, Ate, hlook, Option.isSome_some, Option.isSome_none]
        exact ⟨fun hok => absurd hok hno, by simp⟩
      ·have hk2 : k = n.ps.length := by omega
       rw [hk2] at hf2 hv2
       rw [List.take_length] at hv2
       simp -dsimp (disch := first | assumption | omega) only [↓AsZ, AsV, AsY, As0, eq_self, forall_const, Nat.reduceLT, Nat.reduceEqDiff, Nat.reduceSub, Nat.reduceMul, Nat.reduceMod, Nat.reduceDiv, Nat.reducePow, UInt8.reduceToNat, Int.reduceEq, Int.reduceLT, Int.reduceLE, ↓reduceIte, Nat.reduceAdd, Int.reduceToNat, reduceCtorEq, Nat.reduceLeDiff, ↓Att]
       refine Ayp (l.length - (i + 1)) 3 (by omega) (by simp) rfl (by simp [Axt, Az8, Avi, Au6, AuX _, hbm _, AtN, Ate]) ⟨i + 1, es, f', rfl, by omega, ⟨hc, hbm⟩, fun y => ?_, fun y => by have := hb2 y; omega, fun m hm p hp' => ?_, rfl, rfl⟩
       ·rw [hf2 y, hsucc, List.take_length, hf y]; simp
       ·rw [hsucc, List.mem_append, List.mem_singleton] at hm
        rcases hm with hm | rfl
        ·exact hv m hm p hp'
        ·exact hv2 p hp'
    ·have hi2 : i = l.length := by omega
     rw [hi2, List.take_length] at hf hv
     clear hi2 hi hb
     have hV : AKd l := ⟨hn, hv⟩
     replace hf : ∀ y, f y = kids l [] y := fun y => by rw [hf y, ASo]
     replace hc : AK0 es (kids l []) := hc.congr fun y => (hf y).symm
     clear hf hv
     have hkb := fun d y => AU7 hp d y
     simp -dsimp (disch := first | assumption | omega) only [↓AsZ, AsV, AsY, As0, eq_self, forall_const, Nat.reduceLT, Nat.reduceEqDiff, Nat.reduceSub, Nat.reduceMul, Nat.reduceMod, Nat.reduceDiv, Nat.reducePow, UInt8.reduceToNat, Int.reduceEq, Int.reduceLT, Int.reduceLE, ↓reduceIte, Nat.reduceAdd, Int.reduceToNat, reduceCtorEq, Nat.reduceLeDiff, ↓Att]
     -- those that are free at first
     refine Aua (fun q e H => ∃ (i v : Nat) (fr : List (List UInt8)), q = l.length - i ∧ i ≤ l.length ∧ fr = (Atf (l.take i)).filter (fun y => decide (kids l [] y = 0)) ∧ fr.length ≤ i ∧
      e = [(0, .sl 22 (l.map ndT)), (4, .op 1 0 []), (7, .mp 2 0), (14, .os 20 3 v [] 0 fr.length fr.length), (88, .sl 22 (l.map ndT)), (89, i64 (l.length : Int)), (90, i64 (i : Int))] ∧ H = [.mpo (.arr 20) (Atz l), ADo, .mpo (.arr 20) es, .obj v (.arr fr.length 20 (fr.map idT))]) l.length ?_ ?_
     ·exact ⟨0, 0, [], by simp, by simp, by simp [Atf], by simp, rfl, rfl⟩
     ·clear h i
      rintro q e H ⟨i, v, fr, rfl, hi, hfr, hfl, rfl, rfl⟩
      by_cases h : i < l.length
      ·have hg : l[i]? = some l[i] := List.getElem?_eq_getElem h
       have hsucc := List.take_succ_eq_append_getElem h
       generalize l[i] = n at *
       have hcp := hc n.id
       have hkn := hkb [] n.id
       have hfs : (Atf (l.take (i + 1))).filter (fun y => decide (kids l [] y = 0)) = fr ++ (if kids l [] n.id = 0 then [n.id] else []) := by
        rw [hsucc, hfr]
        simp only [Atf, List.map_append, List.filter_append, List.map_cons, List.map_nil]
        congr 1
        by_cases h0 : kids l [] n.id = 0 <;> simp [h0]
       by_cases h0 : kids l [] n.id = 0
       ·rw [if_pos h0] at hfs
        rw [h0] at hcp
        have htk : (fr.map idT).take fr.length = fr.map idT := AuO rfl
        simp -dsimp (disch := first | assumption | omega) only [↓AsZ, AsV, AsY, As0, eq_self, forall_const, Nat.reduceLT, Nat.reduceEqDiff, Nat.reduceSub, Nat.reduceMul, Nat.reduceMod, Nat.reduceDiv, Nat.reducePow, UInt8.reduceToNat, Int.reduceEq, Int.reduceLT, Int.reduceLE, ↓reduceIte, Nat.reduceAdd, Int.reduceToNat, reduceCtorEq, Nat.reduceLeDiff, ↓Att, hg, AtN, hcp, AxZ, Axg, htk, AG8]
        refine Ayp (l.length - (i + 1)) 4 (by omega) (by simp) rfl (by simp [Axt, Az8, Avi, Au6, AuX _, hbm _, AtN, Ate]) ⟨i + 1, v + 1, fr ++ [n.id], rfl, by omega, hfs.symm, by simp; omega, by simp [forget, get], by simp⟩
       ·rw [if_neg h0, List.append_nil] at hfs
        simp -dsimp (disch := first | assumption | omega) only [↓AsZ, AsV, AsY, As0, eq_self, forall_const, Nat.reduceLT, Nat.reduceEqDiff, Nat.reduceSub, Nat.reduceMul, Nat.reduceMod, Nat.reduceDiv, Nat.reducePow, UInt8.reduceToNat, Int.reduceEq, Int.reduceLT, Int.reduceLE, ↓reduceIte, Nat.reduceAdd, Int.reduceToNat, reduceCtorEq, Nat.reduceLeDiff, ↓Att, hg, AtN, hcp]
        refine Ayp (l.length - (i + 1)) 4 (by omega) (by simp) rfl (by simp [Axt, Az8, Avi, Au6, AuX _, hbm _, AtN, Ate]) ⟨i + 1, v, fr, rfl, by omega, hfs.symm, by omega, rfl, rfl⟩
      ·have hi2 : i = l.length := by omega
       rw [hi2, List.take_length] at hfr
       have hK : AMf l [] fr (kids l []) := ⟨.nil, by rw [hfr]; exact hn.filter _, fun y => by rw [hfr]; simp [List.mem_filter], by simp⟩
       clear hi2 hfr hfl hi
       simp -dsimp (disch := first | assumption | omega) only [↓AsZ, AsV, AsY, As0, eq_self, forall_const, Nat.reduceLT, Nat.reduceEqDiff, Nat.reduceSub, Nat.reduceMul, Nat.reduceMod, Nat.reduceDiv, Nat.reducePow, UInt8.reduceToNat, Int.reduceEq, Int.reduceLT, Int.reduceLE, ↓reduceIte, Nat.reduceAdd, Int.reduceToNat, reduceCtorEq, Nat.reduceLeDiff, ↓Att]
       -- coming free
       refine Aua (fun q e H => ∃ (d fr : List (List UInt8)) (es : List (List UInt8 × TV)) (off n v cp : Nat) (cs : List TV), q = l.length - d.length ∧ AMf l d fr (kids l d) ∧ (AK0 es (kids l d) ∧ AyT es) ∧ (cs.drop off).take fr.length = fr.map idT ∧ off + fr.length ≤ cs.length ∧ fr.length ≤ cp ∧
        e = [(0, .sl 22 (l.map ndT)), (4, .op 1 0 []), (7, .mp 2 0), (14, .os 20 3 v [] off fr.length cp), (17, i64 (d.length : Int))] ∧ H = [.mpo (.arr 20) (Atz l), ADo, .mpo (.arr 20) es, .obj v (.arr n 20 cs)]) l.length ?_ ?_
       ·exact ⟨[], fr, es, 0, fr.length, v, fr.length, fr.map idT, by simp, hK, ⟨hc, hbm⟩, by rw [List.drop_zero]; exact AuO rfl, by simp, by simp, rfl, rfl⟩
       ·clear hK hc h hbm
        rintro q e H ⟨d, fr, es, off, N, v, cp, cs, rfl, hK, ⟨hc, hbm⟩, hcs, hol, hcl, rfl, rfl⟩
        have hdl := hK.ord.le
        cases fr with
        | nil =>
         clear hcs hol hcl
         have hfin := hK.none hV
         by_cases hd : d.length = l.length
         ·have hok : GOk l := ⟨hV, hfin.1 hd⟩
          simp -dsimp (disch := first | assumption | omega) only [↓AsZ, AsV, AsY, As0, eq_self, forall_const, Nat.reduceLT, Nat.reduceEqDiff, Nat.reduceSub, Nat.reduceMul, Nat.reduceMod, Nat.reduceDiv, Nat.reducePow, UInt8.reduceToNat, Int.reduceEq, Int.reduceLT, Int.reduceLE, ↓reduceIte, Nat.reduceAdd, Int.reduceToNat, reduceCtorEq, Nat.reduceLeDiff, ↓Att]
          exact ⟨fun _ => ⟨es, _, rfl⟩, fun hno => absurd hok hno⟩
         ·have hno : ¬ GOk l := fun hok => hd (hfin.2 hok.2)
          simp -dsimp (disch := first | assumption | omega) only [↓AsZ, AsV, AsY, As0, eq_self, forall_const, Nat.reduceLT, Nat.reduceEqDiff, Nat.reduceSub, Nat.reduceMul, Nat.reduceMod, Nat.reduceDiv, Nat.reducePow, UInt8.reduceToNat, Int.reduceEq, Int.reduceLT, Int.reduceLE, ↓reduceIte, Nat.reduceAdd, Int.reduceToNat, reduceCtorEq, Nat.reduceLeDiff, ↓Att]
          exact ⟨fun hok => absurd hok hno, by simp⟩
        | cons x fr =>
         obtain ⟨hx1, hx2, hx3⟩ := (hK.free x).1 (by simp)
         obtain ⟨n, hnl, rfl⟩ := List.mem_map.1 hx1
         have hlook := AyA hn hnl
         obtain ⟨hc0, hcs⟩ := ARe hcs
         rw [Ate] at hc0
         rw [List.length_cons] at hol hcl
         have hT := hK.take hV hnl
         have hd1 : d.length + 1 ≤ l.length := by have := hT.ord.le; simpa using this
         have hpi := hp n hnl
         replace hc : AK0 es (fun y => kids l (d ++ [n.id]) y + n.ps.count y) := hc.congr fun y => (AIR hn hnl hx2 y).symm
         simp -dsimp (disch := first | assumption | omega) only [↓AsZ, AsV, AsY, As0, eq_self, forall_const, Nat.reduceLT, Nat.reduceEqDiff, Nat.reduceSub, Nat.reduceMul, Nat.reduceMod, Nat.reduceDiv, Nat.reducePow, UInt8.reduceToNat, Int.reduceEq, Int.reduceLT, Int.reduceLE, ↓reduceIte, Nat.reduceAdd, Int.reduceToNat, reduceCtorEq, Nat.reduceLeDiff, ↓Att, hc0, hlook, AtN, Nat.add_zero]
         refine Aua (fun q e H => ∃ (k : Nat) (fr : List (List UInt8)) (es : List (List UInt8 × TV)) (f : List UInt8 → Nat) (off N v cp : Nat) (cs : List TV), q = n.ps.length - k ∧ k ≤ n.ps.length ∧ AMf l (d ++ [n.id]) fr f ∧ (∀ y, f y = kids l (d ++ [n.id]) y + (n.ps.drop k).count y) ∧ (AK0 es f ∧ AyT es) ∧
          (cs.drop off).take fr.length = fr.map idT ∧ off + fr.length ≤ cs.length ∧ fr.length ≤ cp ∧
          e = [(0, .sl 22 (l.map ndT)), (4, .op 1 0 []), (7, .mp 2 0), (14, .os 20 3 v [] off fr.length cp), (17, i64 (d.length : Int)), (121, .sl 20 (n.ps.map idT)), (122, i64 (n.ps.length : Int)), (123, i64 (k : Int))] ∧
          H = [.mpo (.arr 20) (Atz l), ADo, .mpo (.arr 20) es, .obj v (.arr N 20 cs), .obj 0 (ndT n)]) n.ps.length ?_ ?_
         ·exact ⟨0, fr, es, _, off + 1, N, v, cp - 1, cs, by simp, by simp, hT, by simp, ⟨hc, hbm⟩, hcs, by omega, by omega, rfl, by rw [AtN]⟩
         ·clear hc hbm hcs hol hcl hc0 hT hK
          rintro q e H ⟨k, fr, es, f, off, N, v, cp, cs, rfl, hk, hK, hf, ⟨hc, hbm⟩, hcs, hol, hcl, rfl, rfl⟩
          by_cases h2 : k < n.ps.length
          ·have hg2 : n.ps[k]? = some n.ps[k] := List.getElem?_eq_getElem h2
           have hdrop := List.drop_eq_getElem_cons h2
           have hpm := List.getElem_mem h2
           generalize n.ps[k] = p at *
           have hcp := hc p
           have hkp := hkb (d ++ [n.id]) p
           have hcnt : (n.ps.drop k).count p ≤ n.ps.length := Nat.le_trans List.count_le_length (by simp)
           have hfp := hf p
           have hf1 : 1 ≤ f p := by rw [hfp, hdrop]; simp; omega
           have hfr1 : fr.length ≤ l.length := by
            have := Axr hK.nodup (e := Atf l) fun y hy => ((hK.free y).1 hy).1
            simpa [Atf] using this
           have hD := hK.drop (hV.there n hnl p hpm) (by omega)
           have hc' := hc.put p (f p - 1)
           have hf' : ∀ y, (if p = y then f p - 1 else f y) = kids l (d ++ [n.id]) y + (n.ps.drop (k + 1)).count y := by
            intro y
            have h9 := hf y
            rw [hdrop, List.count_cons] at h9
            by_cases e : p = y
            ·subst e; simp at h9 ⊢; omega
            ·simp [e] at h9 ⊢; omega
           by_cases h0 : f p = 1
           ·rw [if_pos h0] at hD
            rw [h0] at hcp hc'
            have hcp2 : (Aw4 p (AwI p (i64 (((1 : Nat) - 1 : Nat) : Int)) es)).getD (i64 ((0 : Nat) : Int)) = i64 ((0 : Nat) : Int) := by rw [AQh, if_pos rfl]; rfl
            have hoff : (cs.drop off).take fr.length = fr.map idT := hcs
            simp -dsimp (disch := first | assumption | omega) only [↓AsZ, AsV, AsY, As0, eq_self, forall_const, Nat.reduceLT, Nat.reduceEqDiff, Nat.reduceSub, Nat.reduceMul, Nat.reduceMod, Nat.reduceDiv, Nat.reducePow, UInt8.reduceToNat, Int.reduceEq, Int.reduceLT, Int.reduceLE, ↓reduceIte, Nat.reduceAdd, Int.reduceToNat, reduceCtorEq, Nat.reduceLeDiff, ↓Att, hg2, Ate, hcp, hcp2, AxZ, Axg, hoff, AG8, AJq, AGI, pr1, pr2]
            have hc0 : AK0 (AwI p (i64 ((0 : Nat) : Int)) es) (fun y => if p = y then f p - 1 else f y) := by rw [h0]; exact hc'
            refine Ayp (n.ps.length - (k + 1)) 5 (by omega) (by simp) rfl (by simp [Axt, Az8, Avi, Au6, AuX _, AtN, Ate, (hbm.put (x := .val (.int .i64 0)) fun g => rfl) 5]) ⟨k + 1, fr ++ [p], AwI p (i64 ((0 : Nat) : Int)) es, _, 0, fr.length + 1, v + 1, fr.length + 1, (fr ++ [p]).map idT, rfl, by omega, hD, hf', ⟨hc0, hbm.put fun g => rfl⟩, ?_, ?_, ?_, ?_, rfl⟩
            ·rw [List.drop_zero]; exact AuO rfl
            ·simp
            ·simp
            ·simp [forget, get]
           ·rw [if_neg h0] at hD
            have hcp2 : (Aw4 p (AwI p (i64 ((f p - 1 : Nat) : Int)) es)).getD (i64 ((0 : Nat) : Int)) = i64 ((f p - 1 : Nat) : Int) := by rw [AQh, if_pos rfl]; rfl
            simp -dsimp (disch := first | assumption | omega) only [↓AsZ, AsV, AsY, As0, eq_self, forall_const, Nat.reduceLT, Nat.reduceEqDiff, Nat.reduceSub, Nat.reduceMul, Nat.reduceMod, Nat.reduceDiv, Nat.reducePow, UInt8.reduceToNat, Int.reduceEq, Int.reduceLT, Int.reduceLE, ↓reduceIte, Nat.reduceAdd, Int.reduceToNat, reduceCtorEq, Nat.reduceLeDiff, ↓Att, hg2, Ate, hcp, hcp2, AJq, AGI, pr1, pr2]
            refine Ayp (n.ps.length - (k + 1)) 5 (by omega) (by simp) rfl (by simp [Axt, Az8, Avi, Au6, AuX _, AtN, Ate, hol, (hbm.put (x := .val (.int .i64 ((f p - 1 : Nat) : Int))) fun g => rfl) 5]) ⟨k + 1, fr, _, _, off, N, v, cp, cs, rfl, by omega, hD, hf', ⟨hc', hbm.put fun g => rfl⟩, hcs, hol, hcl, rfl, rfl⟩
          ·have hk2 : k = n.ps.length := by omega
           rw [hk2, List.drop_length] at hf
           have hfe : ∀ y, kids l (d ++ [n.id]) y = f y := fun y => by rw [hf y]; simp
           simp -dsimp (disch := first | assumption | omega) only [↓AsZ, AsV, AsY, As0, eq_self, forall_const, Nat.reduceLT, Nat.reduceEqDiff, Nat.reduceSub, Nat.reduceMul, Nat.reduceMod, Nat.reduceDiv, Nat.reducePow, UInt8.reduceToNat, Int.reduceEq, Int.reduceLT, Int.reduceLE, ↓reduceIte, Nat.reduceAdd, Int.reduceToNat, reduceCtorEq, Nat.reduceLeDiff, ↓Att]
           refine Ayp (l.length - (d.length + 1)) 4 (by omega) (by simp) rfl (by simp [Axt, Az8, Avi, Au6, AuX _, hbm _, AtN, Ate]) ⟨d ++ [n.id], fr, es, off, N, v, cp, cs, by simp, hK.congr hfe, ⟨hc.congr hfe, hbm⟩, hcs, hol, hcl, by simp [forget, get], rfl⟩
end Go.Proofs.YtingoaihnlhiaaaDoor


namespace Go.Proofs.YtingoaihnlhiaaaDoor
variable [At3]
set_option linter.unusedSectionVars false
set_option linter.unusedVariables false
set_option linter.defProp false
set_option maxRecDepth 100000

def Ax4 : AsX := .seq (.seq (.ops [mv_ 18 9,
  po_ 19 (.eqN 1 (.t 18) (.c .nilIface) true)] [4, 5, 8, 9, 19])
 (.cond (.t 19)
 (.seq (.ops [mv_ 20 9,
   po_ 6 (.mov (.c (.bool false))),
   mv_ 7 20] [6, 7])
  (.ret))
 (.skip)))
 (.seq (.sdraw 3 [mv_ 21 8,
  po_ 22 (.load true 20 (.t 4)),
  po_ 25 (.load true 20 (.t 5)),
  ⟨some 23, .s (.bslice 20 1 (.arr 20 1 [.val (.int .u8 ((0 : Nat) : Int)), .val (.int .u8 ((0 : Nat) : Int)), .val (.int .u8 ((0 : Nat) : Int)), .val (.int .u8 ((0 : Nat) : Int)), .val (.int .u8 ((0 : Nat) : Int)), .val (.int .u8 ((0 : Nat) : Int)), .val (.int .u8 ((0 : Nat) : Int)), .val (.int .u8 ((0 : Nat) : Int)), .val (.int .u8 ((0 : Nat) : Int)), .val (.int .u8 ((0 : Nat) : Int)), .val (.int .u8 ((0 : Nat) : Int)), .val (.int .u8 ((0 : Nat) : Int)), .val (.int .u8 ((0 : Nat) : Int)), .val (.int .u8 ((0 : Nat) : Int)), .val (.int .u8 ((0 : Nat) : Int)), .val (.int .u8 ((0 : Nat) : Int)), .val (.int .u8 ((0 : Nat) : Int)), .val (.int .u8 ((0 : Nat) : Int)), .val (.int .u8 ((0 : Nat) : Int)), .val (.int .u8 ((0 : Nat) : Int))]) [⟨0, .t 22⟩]), none⟩,
  so_ 24 (.call 21 [.t 21, .t 23]),
  so_ 26 (.call 25 [.t 24, .t 25]),
  mv_ 6 26,
  po_ 7 (.mov (.c .nilIface))] [6, 7])
 (.ret))
def Ax6 : AsX := .seq (.opsZ [mv_ 11 0,
  po_ 12 (.load true 20 (.t 4)),
  po_ 13 (.load true 20 (.t 5)),
  ⟨some 14, .s (.bslice 20 2 (.arr 20 1 [.val (.int .u8 ((0 : Nat) : Int)), .val (.int .u8 ((0 : Nat) : Int)), .val (.int .u8 ((0 : Nat) : Int)), .val (.int .u8 ((0 : Nat) : Int)), .val (.int .u8 ((0 : Nat) : Int)), .val (.int .u8 ((0 : Nat) : Int)), .val (.int .u8 ((0 : Nat) : Int)), .val (.int .u8 ((0 : Nat) : Int)), .val (.int .u8 ((0 : Nat) : Int)), .val (.int .u8 ((0 : Nat) : Int)), .val (.int .u8 ((0 : Nat) : Int)), .val (.int .u8 ((0 : Nat) : Int)), .val (.int .u8 ((0 : Nat) : Int)), .val (.int .u8 ((0 : Nat) : Int)), .val (.int .u8 ((0 : Nat) : Int)), .val (.int .u8 ((0 : Nat) : Int)), .val (.int .u8 ((0 : Nat) : Int)), .val (.int .u8 ((0 : Nat) : Int)), .val (.int .u8 ((0 : Nat) : Int)), .val (.int .u8 ((0 : Nat) : Int))]) [⟨0, .t 12⟩, ⟨1, .t 13⟩]), none⟩] [14] [so_ 15 (.call 19 [.t 11, .t 14]),
  mv_ 10 15,
  po_ 16 (.ext 0 (.t 10)),
  po_ 17 (.ext 1 (.t 10)),
  mv_ 8 16,
  mv_ 9 17] [4, 5, 8, 9])
 Ax4
def ABO : AsX := .seq (.ops [so_ 4 (.box (.t 1)),
  so_ 5 (.box (.t 2)),
  po_ 6 (.mov (.c (.bool false))),
  po_ 7 (.mov (.c .nilIface))] [0, 4, 5])
 Ax6
def ABk : List VR := [.tmp 6, .tmp 7]
theorem AHj : Tryd.f13.body.bind (trC Tryd.prog Tryd.f13.ntmps) = some (er ABO) := by kernel_rfl
theorem AHC : trR Tryd.prog Tryd.f13.results.toList = some ABk := by kernel_rfl
def ACg := AsU Ax4.eq_1
def ACh := AsU Ax6.eq_1
def AE7 := AsU ABO.eq_1
theorem AFI {K : TV → Prop} {e : Env} {H : List Ob} : res ABk e H K = res [.tmp 6, .tmp 7] e H K := AsT rfl
def Au7 := (And.intro (And.intro @ACg @ACh) (And.intro @AE7 @AFI))
def AGs := Awo 27 Tryd.func13 AHj AHC rfl

def AAb : AsX := .seq (.ops [so_ 35 (.nxtM (.t 34)),
  po_ 36 (.ext 0 (.t 35))] [8, 11, 12, 34, 36])
 (.seq (.cond (.t 36)
 (.skip)
 (.exit 0))
 (.block 1 (.seq (.ops [po_ 37 (.gen .entM [.t 34]),
  po_ 38 (.ext 0 (.t 37)),
  so_ 13 (.alloc (.arr 20 1 [.val (.int .u8 ((0 : Nat) : Int)), .val (.int .u8 ((0 : Nat) : Int)), .val (.int .u8 ((0 : Nat) : Int)), .val (.int .u8 ((0 : Nat) : Int)), .val (.int .u8 ((0 : Nat) : Int)), .val (.int .u8 ((0 : Nat) : Int)), .val (.int .u8 ((0 : Nat) : Int)), .val (.int .u8 ((0 : Nat) : Int)), .val (.int .u8 ((0 : Nat) : Int)), .val (.int .u8 ((0 : Nat) : Int)), .val (.int .u8 ((0 : Nat) : Int)), .val (.int .u8 ((0 : Nat) : Int)), .val (.int .u8 ((0 : Nat) : Int)), .val (.int .u8 ((0 : Nat) : Int)), .val (.int .u8 ((0 : Nat) : Int)), .val (.int .u8 ((0 : Nat) : Int)), .val (.int .u8 ((0 : Nat) : Int)), .val (.int .u8 ((0 : Nat) : Int)), .val (.int .u8 ((0 : Nat) : Int)), .val (.int .u8 ((0 : Nat) : Int))])),
  ⟨none, .s (.store 20 (.t 13) (.t 38)), none⟩] [8, 11, 12, 13, 34])
 (.seq (.ops [mv_ 39 11,
  po_ 40 (.load true 20 (.t 13)),
  so_ 41 (.call 25 [.t 39, .t 40])] [8, 11, 12, 13, 34, 41])
 (.cond (.t 41)
 (.ops [mv_ 42 12,
   po_ 43 (.load true 20 (.t 13)),
   ⟨some 44, .s (.bslice 20 1 (.arr 20 1 [.val (.int .u8 ((0 : Nat) : Int)), .val (.int .u8 ((0 : Nat) : Int)), .val (.int .u8 ((0 : Nat) : Int)), .val (.int .u8 ((0 : Nat) : Int)), .val (.int .u8 ((0 : Nat) : Int)), .val (.int .u8 ((0 : Nat) : Int)), .val (.int .u8 ((0 : Nat) : Int)), .val (.int .u8 ((0 : Nat) : Int)), .val (.int .u8 ((0 : Nat) : Int)), .val (.int .u8 ((0 : Nat) : Int)), .val (.int .u8 ((0 : Nat) : Int)), .val (.int .u8 ((0 : Nat) : Int)), .val (.int .u8 ((0 : Nat) : Int)), .val (.int .u8 ((0 : Nat) : Int)), .val (.int .u8 ((0 : Nat) : Int)), .val (.int .u8 ((0 : Nat) : Int)), .val (.int .u8 ((0 : Nat) : Int)), .val (.int .u8 ((0 : Nat) : Int)), .val (.int .u8 ((0 : Nat) : Int)), .val (.int .u8 ((0 : Nat) : Int))]) [⟨0, .t 43⟩]), none⟩,
   so_ 45 (.app 20 20 40 (.t 42) (.t 44)),
   mv_ 12 45] [8, 11, 12, 34])
 (.skip))))))
def Azl : AsX := .block 0 (.own 12 20 (.loop [8, 11, 12, 34] AAb))
def AzF : AsX := .seq (.ops [mv_ 46 8,
  mv_ 47 12,
  so_ 48 (.call 33 [.t 46, .t 47]),
  mv_ 6 48,
  po_ 7 (.mov (.c .nilIface))] [6, 7])
 (.ret)
def AzV : AsX := .seq (.seq (.ops [mv_ 33 10,
  so_ 34 (.rngM (.t 33))] [8, 11, 12, 34])
 Azl)
 AzF
def Axs : AsX := .seq (.ops [po_ 12 (.mov (.c (.slice none 0 0)))] [8, 10, 11, 12])
 AzV
def AAs : AsX := .seq (.sdraw 6 [mv_ 25 8,
  po_ 26 (.load true 20 (.t 4)),
  ⟨some 27, .p (.bsl 20 1 (.arr 20 1 [.val (.int .u8 ((0 : Nat) : Int)), .val (.int .u8 ((0 : Nat) : Int)), .val (.int .u8 ((0 : Nat) : Int)), .val (.int .u8 ((0 : Nat) : Int)), .val (.int .u8 ((0 : Nat) : Int)), .val (.int .u8 ((0 : Nat) : Int)), .val (.int .u8 ((0 : Nat) : Int)), .val (.int .u8 ((0 : Nat) : Int)), .val (.int .u8 ((0 : Nat) : Int)), .val (.int .u8 ((0 : Nat) : Int)), .val (.int .u8 ((0 : Nat) : Int)), .val (.int .u8 ((0 : Nat) : Int)), .val (.int .u8 ((0 : Nat) : Int)), .val (.int .u8 ((0 : Nat) : Int)), .val (.int .u8 ((0 : Nat) : Int)), .val (.int .u8 ((0 : Nat) : Int)), .val (.int .u8 ((0 : Nat) : Int)), .val (.int .u8 ((0 : Nat) : Int)), .val (.int .u8 ((0 : Nat) : Int)), .val (.int .u8 ((0 : Nat) : Int))]) [⟨0, .t 26⟩]), none⟩,
  mv_ 29 8,
  po_ 30 (.load true 20 (.t 5)),
  ⟨some 31, .p (.bsl 20 1 (.arr 20 1 [.val (.int .u8 ((0 : Nat) : Int)), .val (.int .u8 ((0 : Nat) : Int)), .val (.int .u8 ((0 : Nat) : Int)), .val (.int .u8 ((0 : Nat) : Int)), .val (.int .u8 ((0 : Nat) : Int)), .val (.int .u8 ((0 : Nat) : Int)), .val (.int .u8 ((0 : Nat) : Int)), .val (.int .u8 ((0 : Nat) : Int)), .val (.int .u8 ((0 : Nat) : Int)), .val (.int .u8 ((0 : Nat) : Int)), .val (.int .u8 ((0 : Nat) : Int)), .val (.int .u8 ((0 : Nat) : Int)), .val (.int .u8 ((0 : Nat) : Int)), .val (.int .u8 ((0 : Nat) : Int)), .val (.int .u8 ((0 : Nat) : Int)), .val (.int .u8 ((0 : Nat) : Int)), .val (.int .u8 ((0 : Nat) : Int)), .val (.int .u8 ((0 : Nat) : Int)), .val (.int .u8 ((0 : Nat) : Int)), .val (.int .u8 ((0 : Nat) : Int))]) [⟨0, .t 30⟩]), none⟩,
  so_ 28 (.call 21 [.t 25, .t 27]),
  so_ 32 (.call 21 [.t 29, .t 31]),
  mv_ 10 28,
  mv_ 11 32] [8, 10, 11])
 Axs
def AAy : AsX := .seq (.seq (.ops [mv_ 22 9,
  po_ 23 (.eqN 1 (.t 22) (.c .nilIface) true)] [4, 5, 8, 9, 23])
 (.cond (.t 23)
 (.seq (.ops [mv_ 24 9,
   po_ 6 (.mov (.c (.slice none 0 0))),
   mv_ 7 24] [6, 7])
  (.ret))
 (.skip)))
 AAs
def AzB : AsX := .seq (.opsZ [mv_ 15 0,
  po_ 16 (.load true 20 (.t 4)),
  po_ 17 (.load true 20 (.t 5)),
  ⟨some 18, .s (.bslice 20 2 (.arr 20 1 [.val (.int .u8 ((0 : Nat) : Int)), .val (.int .u8 ((0 : Nat) : Int)), .val (.int .u8 ((0 : Nat) : Int)), .val (.int .u8 ((0 : Nat) : Int)), .val (.int .u8 ((0 : Nat) : Int)), .val (.int .u8 ((0 : Nat) : Int)), .val (.int .u8 ((0 : Nat) : Int)), .val (.int .u8 ((0 : Nat) : Int)), .val (.int .u8 ((0 : Nat) : Int)), .val (.int .u8 ((0 : Nat) : Int)), .val (.int .u8 ((0 : Nat) : Int)), .val (.int .u8 ((0 : Nat) : Int)), .val (.int .u8 ((0 : Nat) : Int)), .val (.int .u8 ((0 : Nat) : Int)), .val (.int .u8 ((0 : Nat) : Int)), .val (.int .u8 ((0 : Nat) : Int)), .val (.int .u8 ((0 : Nat) : Int)), .val (.int .u8 ((0 : Nat) : Int)), .val (.int .u8 ((0 : Nat) : Int)), .val (.int .u8 ((0 : Nat) : Int))]) [⟨0, .t 16⟩, ⟨1, .t 17⟩]), none⟩] [18] [so_ 19 (.call 19 [.t 15, .t 18]),
  mv_ 14 19,
  po_ 20 (.ext 0 (.t 14)),
  po_ 21 (.ext 1 (.t 14)),
  mv_ 8 20,
  mv_ 9 21] [4, 5, 8, 9])
 AAy
def AEC : AsX := .seq (.ops [so_ 4 (.box (.t 1)),
  so_ 5 (.box (.t 2)),
  po_ 6 (.mov (.c (.slice none 0 0))),
  po_ 7 (.mov (.c .nilIface))] [0, 4, 5])
 AzB
def Azg : List VR := [.tmp 6, .tmp 7]
theorem AI6 : Tryd.f15.body.bind (trC Tryd.prog Tryd.f15.ntmps) = some (er AEC) := by kernel_rfl
theorem AI0 : trR Tryd.prog Tryd.f15.results.toList = some Azg := by kernel_rfl
def ADf := AsU AAb.eq_1
def ADt := AsU Azl.eq_1
def AEQ := AsU AzF.eq_1
def ADp := AsU AzV.eq_1
def AEf := AsU Axs.eq_1
def Ax9 := AsU AAs.eq_1
def Ayd := AsU AAy.eq_1
def Awz := AsU AzB.eq_1
def AxV := AsU AEC.eq_1
theorem AB0 {K : TV → Prop} {e : Env} {H : List Ob} : res Azg e H K = res [.tmp 6, .tmp 7] e H K := AsT rfl
def Aue := (And.intro (And.intro (And.intro (And.intro @ADf @ADt) (And.intro @AEQ @ADp)) (And.intro (And.intro @AEf @Ax9) (And.intro @Ayd @Awz))) (And.intro @AxV @AB0))
def AIc := Awo 49 Tryd.func15 AI6 AI0 rfl

def AyV : AsX := .seq (.ops [mv_ 9 0,
  mv_ 10 1,
  so_ 11 (.call 19 [.t 9, .t 10]),
  mv_ 8 11,
  po_ 12 (.ext 0 (.t 8)),
  po_ 13 (.ext 1 (.t 8)),
  mv_ 6 12,
  mv_ 7 13] [1, 6, 7])
 (.seq (.seq (.ops [mv_ 14 7,
  po_ 15 (.eqN 1 (.t 14) (.c .nilIface) true)] [1, 6, 7, 15])
 (.cond (.t 15)
 (.seq (.ops [mv_ 16 7,
   po_ 4 (.mov (.c (.slice none 0 0))),
   mv_ 5 16] [4, 5])
  (.ret))
 (.skip)))
 (.seq (.ops [mv_ 17 6,
  mv_ 18 1,
  so_ 19 (.call 33 [.t 17, .t 18]),
  mv_ 4 19,
  po_ 5 (.mov (.c .nilIface))] [4, 5])
 (.ret)))
def ACo : AsX := .seq (.ops [po_ 4 (.mov (.c (.slice none 0 0))),
  po_ 5 (.mov (.c .nilIface))] [0, 1])
 AyV
def ACx : List VR := [.tmp 4, .tmp 5]
theorem AH7 : Tryd.f17.body.bind (trC Tryd.prog Tryd.f17.ntmps) = some (er ACo) := by kernel_rfl
theorem AHX : trR Tryd.prog Tryd.f17.results.toList = some ACx := by kernel_rfl
def ACE := AsU AyV.eq_1
def AGH := AsU ACo.eq_1
theorem AGu {K : TV → Prop} {e : Env} {H : List Ob} : res ACx e H K = res [.tmp 4, .tmp 5] e H K := AsT rfl
def AvQ := (And.intro (And.intro @ACE @AGH) @AGu)
def AHq := Awo 20 Tryd.func17 AH7 AHX rfl

def AEe : AsX := .seq (.seq (.ops [mv_ 13 7,
  po_ 14 (.eqN 1 (.t 13) (.c .nilIface) false),
  mv_ 15 14,
  ⟨some 16, .p (.mov (.t 6)), some ⟨15, true⟩⟩,
  ⟨some 17, .p (.mov (.t 1)), some ⟨15, true⟩⟩,
  ⟨some 18, .s (.call 36 [.t 16, .t 17]), some ⟨15, true⟩⟩,
  ⟨some 19, .p (.un .not (.t 18)), some ⟨15, true⟩⟩,
  po_ 20 (.pick (.t 15) (.t 19) (.c (.bool false)))] [6, 7, 20])
 (.cond (.t 20)
 (.ops [po_ 21 (.iface 36 (ci_ 80)),
   mv_ 7 21] [6, 7])
 (.skip)))
 (.seq (.ops [mv_ 22 6,
  mv_ 23 7,
  mv_ 4 22,
  mv_ 5 23] [4, 5])
 (.ret))
def AEh : AsX := .seq (.ops [mv_ 9 0,
  so_ 10 (.call 35 [.t 9]),
  mv_ 8 10,
  po_ 11 (.ext 0 (.t 8)),
  po_ 12 (.ext 1 (.t 8)),
  mv_ 6 11,
  mv_ 7 12] [1, 6, 7])
 AEe
def AIr : AsX := .seq (.ops [po_ 4 (.mov (.c (.pointer none))),
  po_ 5 (.mov (.c .nilIface))] [0, 1])
 AEh
def AIw : List VR := [.tmp 4, .tmp 5]
theorem ANn : Tryd.f19.body.bind (trC Tryd.prog Tryd.f19.ntmps) = some (er AIr) := by kernel_rfl
theorem AMz : trR Tryd.prog Tryd.f19.results.toList = some AIw := by kernel_rfl
def AGS := AsU AEe.eq_1
def AG7 := AsU AEh.eq_1
def AKg := AsU AIr.eq_1
theorem AKX {K : TV → Prop} {e : Env} {H : List Ob} : res AIw e H K = res [.tmp 4, .tmp 5] e H K := AsT rfl
def Ay4 := (And.intro (And.intro @AGS @AG7) (And.intro @AKg @AKX))
def ALa := Awo 24 Tryd.func19 ANn AMz rfl

def AwM : AsX := .seq (.ops [mv_ 29 5,
  po_ 30 (.load true 20 (.t 7)),
  po_ 31 (.build [] [] []),
  ⟨none, .s (.mupd (.arr 20) (.t 29) (.t 30) (.t 31)), none⟩] [0, 5, 6, 7])
 (.draw 5 [mv_ 32 6,
  mv_ 33 0,
  po_ 34 (.nilc (.t 33)),
  po_ 35 (.fieldA 0 0 (.t 34)),
  po_ 36 (.load false 1 (.t 35)),
  po_ 37 (.load true 20 (.t 7)),
  po_ 38 (.gen (.look (.arr 20) (.agg [.arr 20 1 [.val (.int .u8 ((0 : Nat) : Int)), .val (.int .u8 ((0 : Nat) : Int)), .val (.int .u8 ((0 : Nat) : Int)), .val (.int .u8 ((0 : Nat) : Int)), .val (.int .u8 ((0 : Nat) : Int)), .val (.int .u8 ((0 : Nat) : Int)), .val (.int .u8 ((0 : Nat) : Int)), .val (.int .u8 ((0 : Nat) : Int)), .val (.int .u8 ((0 : Nat) : Int)), .val (.int .u8 ((0 : Nat) : Int)), .val (.int .u8 ((0 : Nat) : Int)), .val (.int .u8 ((0 : Nat) : Int)), .val (.int .u8 ((0 : Nat) : Int)), .val (.int .u8 ((0 : Nat) : Int)), .val (.int .u8 ((0 : Nat) : Int)), .val (.int .u8 ((0 : Nat) : Int)), .val (.int .u8 ((0 : Nat) : Int)), .val (.int .u8 ((0 : Nat) : Int)), .val (.int .u8 ((0 : Nat) : Int)), .val (.int .u8 ((0 : Nat) : Int))], .val (.slice none 0 0), .val (.int .i64 ((0 : Nat) : Int))]) false) [.t 36, .t 37]),
  po_ 39 (.field false 1 1 20 (.t 38)),
  so_ 40 (.app 20 20 40 (.t 32) (.t 39)),
  mv_ 6 40] [0, 5, 6])
def AwQ : AsX := .cond (.t 28)
 AwM
 (.skip)
def AwP : AsX := .seq (.ops [mv_ 25 5,
  po_ 26 (.load true 20 (.t 7)),
  so_ 27 (.call 25 [.t 25, .t 26]),
  po_ 28 (.un .not (.t 27))] [0, 5, 6, 7, 28])
 AwQ
def AwO : AsX := .seq (.ops [mv_ 20 6,
  mv_ 21 6,
  po_ 22 (.lenV (.t 21)),
  po_ 23 (.bin 3 .sub (.t 22) (ci_ 1)),
  po_ 24 (.slV 20 (.t 20) none (some (.t 23))),
  mv_ 6 24] [0, 5, 6, 7])
 AwP
def AwN : AsX := .block 1 (.seq (.ops [mv_ 14 6,
  mv_ 15 6,
  po_ 16 (.lenV (.t 15)),
  po_ 17 (.bin 3 .sub (.t 16) (ci_ 1)),
  po_ 18 (.idxA 20 (.t 14) (.t 17)),
  po_ 19 (.load true 20 (.t 18)),
  so_ 7 (.alloc (.arr 20 1 [.val (.int .u8 ((0 : Nat) : Int)), .val (.int .u8 ((0 : Nat) : Int)), .val (.int .u8 ((0 : Nat) : Int)), .val (.int .u8 ((0 : Nat) : Int)), .val (.int .u8 ((0 : Nat) : Int)), .val (.int .u8 ((0 : Nat) : Int)), .val (.int .u8 ((0 : Nat) : Int)), .val (.int .u8 ((0 : Nat) : Int)), .val (.int .u8 ((0 : Nat) : Int)), .val (.int .u8 ((0 : Nat) : Int)), .val (.int .u8 ((0 : Nat) : Int)), .val (.int .u8 ((0 : Nat) : Int)), .val (.int .u8 ((0 : Nat) : Int)), .val (.int .u8 ((0 : Nat) : Int)), .val (.int .u8 ((0 : Nat) : Int)), .val (.int .u8 ((0 : Nat) : Int)), .val (.int .u8 ((0 : Nat) : Int)), .val (.int .u8 ((0 : Nat) : Int)), .val (.int .u8 ((0 : Nat) : Int)), .val (.int .u8 ((0 : Nat) : Int))])),
  ⟨none, .s (.store 20 (.t 7) (.t 19)), none⟩] [0, 5, 6, 7])
 AwO)
def Avn : AsX := .seq (.seq (.ops [mv_ 11 6,
  po_ 12 (.lenV (.t 11)),
  po_ 13 (.bin 3 .gtr (.t 12) (ci_ 0))] [0, 5, 6, 13])
 (.cond (.t 13)
 (.skip)
 (.exit 0)))
 AwN
def Avk : AsX := .seq (.ops [mv_ 41 5,
  mv_ 4 41] [4])
 (.ret)
def AwT : AsX := .seq (.block 0 (.own 6 20 (.loop [0, 5, 6] Avn)))
 Avk
def AwR : AsX := .seq (.ops [mv_ 9 1,
  so_ 10 (.call 38 [.t 9]),
  mv_ 6 10] [0, 5, 6])
 AwT
def AwD : AsX := .seq (.ops [so_ 8 (.mkm (.arr 20) none),
  mv_ 5 8] [0, 1, 5])
 AwR
def Ax2 : AsX := .seq (.ops [po_ 4 (.mov (.c (.map none)))] [0, 1])
 AwD
def Av6 : List VR := [.tmp 4]
theorem ACV : Tryd.f21.body.bind (trC Tryd.prog Tryd.f21.ntmps) = some (er Ax2) := by kernel_rfl
theorem ACN : trR Tryd.prog Tryd.f21.results.toList = some Av6 := by kernel_rfl
def AyN := AsU AwM.eq_1
def AyY := AsU AwQ.eq_1
def AyP := AsU AwP.eq_1
def Ayy := AsU AwO.eq_1
def AyO := AsU AwN.eq_1
def AyQ := AsU Avn.eq_1
def Ayw := AsU Avk.eq_1
def AyF := AsU AwT.eq_1
def Ay0 := AsU AwR.eq_1
def Ayk := AsU AwD.eq_1
def AAJ := AsU Ax2.eq_1
theorem ABQ {K : TV → Prop} {e : Env} {H : List Ob} : res Av6 e H K = res [.tmp 4] e H K := AsT rfl
def AtT := (And.intro (And.intro (And.intro (And.intro @AyN @AyY) (And.intro @AyP @Ayy)) (And.intro (And.intro @AyO @AyQ) (And.intro @Ayw @AyF))) (And.intro (And.intro @Ay0 @Ayk) (And.intro @AAJ @ABQ)))
def AB9 := Awo 42 Tryd.func21 ACV ACN rfl

def Awp : AsX := .seq (.block 1 (.seq (.ops [po_ 19 (.idxA 20 (.t 15) (.t 17)),
  po_ 20 (.load true 20 (.t 19)),
  so_ 7 (.alloc (.arr 20 1 [.val (.int .u8 ((0 : Nat) : Int)), .val (.int .u8 ((0 : Nat) : Int)), .val (.int .u8 ((0 : Nat) : Int)), .val (.int .u8 ((0 : Nat) : Int)), .val (.int .u8 ((0 : Nat) : Int)), .val (.int .u8 ((0 : Nat) : Int)), .val (.int .u8 ((0 : Nat) : Int)), .val (.int .u8 ((0 : Nat) : Int)), .val (.int .u8 ((0 : Nat) : Int)), .val (.int .u8 ((0 : Nat) : Int)), .val (.int .u8 ((0 : Nat) : Int)), .val (.int .u8 ((0 : Nat) : Int)), .val (.int .u8 ((0 : Nat) : Int)), .val (.int .u8 ((0 : Nat) : Int)), .val (.int .u8 ((0 : Nat) : Int)), .val (.int .u8 ((0 : Nat) : Int)), .val (.int .u8 ((0 : Nat) : Int)), .val (.int .u8 ((0 : Nat) : Int)), .val (.int .u8 ((0 : Nat) : Int)), .val (.int .u8 ((0 : Nat) : Int))])),
  ⟨none, .s (.store 20 (.t 7) (.t 20)), none⟩] [0, 1, 5, 7, 15, 16, 17])
 (.draw 5 [mv_ 21 5,
  mv_ 22 0,
  po_ 23 (.nilc (.t 22)),
  po_ 24 (.fieldA 0 0 (.t 23)),
  po_ 25 (.load false 1 (.t 24)),
  po_ 26 (.load true 20 (.t 7)),
  po_ 27 (.gen (.look (.arr 20) (.agg [.arr 20 1 [.val (.int .u8 ((0 : Nat) : Int)), .val (.int .u8 ((0 : Nat) : Int)), .val (.int .u8 ((0 : Nat) : Int)), .val (.int .u8 ((0 : Nat) : Int)), .val (.int .u8 ((0 : Nat) : Int)), .val (.int .u8 ((0 : Nat) : Int)), .val (.int .u8 ((0 : Nat) : Int)), .val (.int .u8 ((0 : Nat) : Int)), .val (.int .u8 ((0 : Nat) : Int)), .val (.int .u8 ((0 : Nat) : Int)), .val (.int .u8 ((0 : Nat) : Int)), .val (.int .u8 ((0 : Nat) : Int)), .val (.int .u8 ((0 : Nat) : Int)), .val (.int .u8 ((0 : Nat) : Int)), .val (.int .u8 ((0 : Nat) : Int)), .val (.int .u8 ((0 : Nat) : Int)), .val (.int .u8 ((0 : Nat) : Int)), .val (.int .u8 ((0 : Nat) : Int)), .val (.int .u8 ((0 : Nat) : Int)), .val (.int .u8 ((0 : Nat) : Int))], .val (.slice none 0 0), .val (.int .i64 ((0 : Nat) : Int))]) false) [.t 25, .t 26]),
  po_ 28 (.field false 1 1 20 (.t 27)),
  so_ 29 (.app 20 20 40 (.t 21) (.t 28)),
  mv_ 5 29] [0, 1, 5, 15, 16, 17])))
 (.ops [po_ 30 (.bin 3 .add (.t 17) (ci_ 1)),
  mv_ 17 30] [0, 1, 5, 15, 16, 17])
def Awr : AsX := .seq (.cond (.t 18)
 (.skip)
 (.exit 0))
 Awp
def Awy : AsX := .seq (.ops [po_ 18 (.bin 3 .lss (.t 17) (.t 16))] [0, 1, 5, 15, 16, 17, 18])
 Awr
def AwE : AsX := .block 0 (.own 5 20 (.loop [0, 1, 5, 15, 16, 17] Awy))
def Aws : AsX := .seq (.ops [mv_ 31 0,
  mv_ 32 5,
  so_ 33 (.call 21 [.t 31, .t 32]),
  mv_ 8 33] [1, 8])
 (.seq (.ops [mv_ 34 1,
  mv_ 35 8,
  po_ 36 (.mkf (.func 25) [.t 35] []),
  so_ 37 (.call 49 [.t 34, .t 36]),
  mv_ 4 37] [4])
 (.ret))
def AwF : AsX := .seq (.seq (.ops [mv_ 15 1,
  po_ 16 (.lenV (.t 15)),
  po_ 17 (.mov (ci_ 0))] [0, 1, 5, 15, 16, 17])
 AwE)
 Aws
def Aug : AsX := .seq (.ops [po_ 5 (.mov (.c (.slice none 0 0)))] [0, 1, 5])
 AwF
def Awm : AsX := .seq (.ops [mv_ 13 1,
  so_ 14 (.call 48 [.t 13]),
  mv_ 1 14] [0, 1])
 Aug
def Awu : AsX := .seq (.ops [mv_ 11 1,
  so_ 12 (.call 45 [.t 11, .c (.func (.func 46) #[] #[])])] [0, 1])
 Awm
def Awc : AsX := .seq (.ops [mv_ 9 1,
  so_ 10 (.call 38 [.t 9]),
  mv_ 1 10] [0, 1])
 Awu
def Axu : AsX := .seq (.ops [po_ 4 (.mov (.c (.slice none 0 0)))] [0, 1])
 Awc
def Au5 : List VR := [.tmp 4]
theorem ACa : Tryd.f33.body.bind (trC Tryd.prog Tryd.f33.ntmps) = some (er Axu) := by kernel_rfl
theorem ACd : trR Tryd.prog Tryd.f33.results.toList = some Au5 := by kernel_rfl
def Ayh := AsU Awp.eq_1
def Aym := AsU Awr.eq_1
def Ays := AsU Awy.eq_1
def Ayo := AsU AwE.eq_1
def Ayn := AsU Aws.eq_1
def Ayi := AsU AwF.eq_1
def Ayj := AsU Aug.eq_1
def Au0 := AsU Awm.eq_1
def Au1 := AsU Awu.eq_1
def AuH := AsU Awc.eq_1
def AAI := AsU Axu.eq_1
theorem AAG {K : TV → Prop} {e : Env} {H : List Ob} : res Au5 e H K = res [.tmp 4] e H K := AsT rfl
def Atq := (And.intro (And.intro (And.intro (And.intro @Ayh @Aym) (And.intro @Ays @Ayo)) (And.intro (And.intro @Ayn @Ayi) (And.intro @Ayj @Au0))) (And.intro (And.intro @Au1 @AuH) (And.intro @AAI @AAG)))
def AAP := Awo 38 Tryd.func33 ACa ACd rfl

def ABy : AsX := .seq (.ops [so_ 3 (.box (.t 1)),
  po_ 4 (.mov (.c (.bool false)))] [0, 3])
 (.seq (.ops [mv_ 8 0,
  po_ 9 (.load true 20 (.t 3)),
  po_ 10 (.gen (.look (.arr 20) (.agg []) true) [.t 8, .t 9]),
  mv_ 7 10,
  po_ 11 (.ext 0 (.t 7)),
  po_ 12 (.ext 1 (.t 7)),
  so_ 5 (.alloc (.agg [])),
  ⟨none, .s (.store 0 (.t 5) (.t 11)), none⟩,
  mv_ 6 12] [6])
 (.seq (.ops [mv_ 13 6,
  mv_ 4 13] [4])
 (.ret)))
def AAQ : List VR := [.tmp 4]
theorem AHF : Tryd.f25.body.bind (trC Tryd.prog Tryd.f25.ntmps) = some (er ABy) := by kernel_rfl
theorem AHu : trR Tryd.prog Tryd.f25.results.toList = some AAQ := by kernel_rfl
def AFf := AsU ABy.eq_1
theorem AFS {K : TV → Prop} {e : Env} {H : List Ob} : res AAQ e H K = res [.tmp 4] e H K := AsT rfl
def ABd := (And.intro @AFf @AFS)
def AGo := Awo 14 Tryd.func25 AHF AHu rfl

def AxQ : AsX := .seq (.ops [so_ 2 (.box (.t 0)),
  po_ 4 (.mov (.c (.bool false)))] [1, 2])
 (.seq (.ops [mv_ 5 1,
  po_ 6 (.mkf (.func 51) [] [.t 2]),
  so_ 7 (.call 50 [.t 5, .t 6]),
  po_ 8 (.un .not (.t 7)),
  mv_ 4 8] [4])
 (.ret))
def AxR : List VR := [.tmp 4]
theorem ACA : Tryd.f36.body.bind (trC Tryd.prog Tryd.f36.ntmps) = some (er AxQ) := by kernel_rfl
theorem ACZ : trR Tryd.prog Tryd.f36.results.toList = some AxR := by kernel_rfl
def AAN := AsU AxQ.eq_1
theorem ABW {K : TV → Prop} {e : Env} {H : List Ob} : res AxR e H K = res [.tmp 4] e H K := AsT rfl
def AxT := (And.intro @AAN @ABW)
def ACi := Awo 9 Tryd.func36 ACA ACZ rfl

def Awh : AsX := .seq (.draw 9 [po_ 7 (.load false 1 (.t 1)),
  po_ 8 (.nilc (.t 7)),
  po_ 9 (.fieldA 0 0 (.t 8)),
  po_ 10 (.load false 1 (.t 9)),
  po_ 11 (.load true 20 (.t 2)),
  po_ 12 (.gen (.look (.arr 20) (.agg [.arr 20 1 [.val (.int .u8 ((0 : Nat) : Int)), .val (.int .u8 ((0 : Nat) : Int)), .val (.int .u8 ((0 : Nat) : Int)), .val (.int .u8 ((0 : Nat) : Int)), .val (.int .u8 ((0 : Nat) : Int)), .val (.int .u8 ((0 : Nat) : Int)), .val (.int .u8 ((0 : Nat) : Int)), .val (.int .u8 ((0 : Nat) : Int)), .val (.int .u8 ((0 : Nat) : Int)), .val (.int .u8 ((0 : Nat) : Int)), .val (.int .u8 ((0 : Nat) : Int)), .val (.int .u8 ((0 : Nat) : Int)), .val (.int .u8 ((0 : Nat) : Int)), .val (.int .u8 ((0 : Nat) : Int)), .val (.int .u8 ((0 : Nat) : Int)), .val (.int .u8 ((0 : Nat) : Int)), .val (.int .u8 ((0 : Nat) : Int)), .val (.int .u8 ((0 : Nat) : Int)), .val (.int .u8 ((0 : Nat) : Int)), .val (.int .u8 ((0 : Nat) : Int))], .val (.slice none 0 0), .val (.int .i64 ((0 : Nat) : Int))]) true) [.t 10, .t 11]),
  mv_ 6 12,
  po_ 13 (.ext 0 (.t 6)),
  po_ 14 (.ext 1 (.t 6)),
  so_ 4 (.alloc (.agg [.arr 20 1 [.val (.int .u8 ((0 : Nat) : Int)), .val (.int .u8 ((0 : Nat) : Int)), .val (.int .u8 ((0 : Nat) : Int)), .val (.int .u8 ((0 : Nat) : Int)), .val (.int .u8 ((0 : Nat) : Int)), .val (.int .u8 ((0 : Nat) : Int)), .val (.int .u8 ((0 : Nat) : Int)), .val (.int .u8 ((0 : Nat) : Int)), .val (.int .u8 ((0 : Nat) : Int)), .val (.int .u8 ((0 : Nat) : Int)), .val (.int .u8 ((0 : Nat) : Int)), .val (.int .u8 ((0 : Nat) : Int)), .val (.int .u8 ((0 : Nat) : Int)), .val (.int .u8 ((0 : Nat) : Int)), .val (.int .u8 ((0 : Nat) : Int)), .val (.int .u8 ((0 : Nat) : Int)), .val (.int .u8 ((0 : Nat) : Int)), .val (.int .u8 ((0 : Nat) : Int)), .val (.int .u8 ((0 : Nat) : Int)), .val (.int .u8 ((0 : Nat) : Int))], .val (.slice none 0 0), .val (.int .i64 ((0 : Nat) : Int))])),
  ⟨none, .s (.store 22 (.t 4) (.t 13)), none⟩,
  mv_ 5 14] [5])
 (.seq (.ops [mv_ 15 5,
  po_ 16 (.un .not (.t 15)),
  mv_ 3 16] [3])
 (.ret))
def Axe : AsX := .seq (.ops [so_ 2 (.box (.t 0)),
  po_ 3 (.mov (.c (.bool false)))] [1, 2])
 Awh
def Aw5 : List VR := [.tmp 3]
theorem ABj : Tryd.f51.body.bind (trC Tryd.prog Tryd.f51.ntmps) = some (er Axe) := by kernel_rfl
theorem AA6 : trR Tryd.prog Tryd.f51.results.toList = some Aw5 := by kernel_rfl
def Ax3 := AsU Awh.eq_1
def Ay7 := AsU Axe.eq_1
theorem Azb {K : TV → Prop} {e : Env} {H : List Ob} : res Aw5 e H K = res [.tmp 3] e H K := AsT rfl
def Axa := (And.intro (And.intro @Ax3 @Ay7) @Azb)
def AAF := Awo 17 Tryd.func51 ABj AA6 rfl

def Ay1 : AsX := .seq (.opsZ [mv_ 26 0,
  po_ 27 (.load true 20 (.t 4)),
  ⟨some 28, .s (.bslice 20 1 (.arr 20 1 [.val (.int .u8 ((0 : Nat) : Int)), .val (.int .u8 ((0 : Nat) : Int)), .val (.int .u8 ((0 : Nat) : Int)), .val (.int .u8 ((0 : Nat) : Int)), .val (.int .u8 ((0 : Nat) : Int)), .val (.int .u8 ((0 : Nat) : Int)), .val (.int .u8 ((0 : Nat) : Int)), .val (.int .u8 ((0 : Nat) : Int)), .val (.int .u8 ((0 : Nat) : Int)), .val (.int .u8 ((0 : Nat) : Int)), .val (.int .u8 ((0 : Nat) : Int)), .val (.int .u8 ((0 : Nat) : Int)), .val (.int .u8 ((0 : Nat) : Int)), .val (.int .u8 ((0 : Nat) : Int)), .val (.int .u8 ((0 : Nat) : Int)), .val (.int .u8 ((0 : Nat) : Int)), .val (.int .u8 ((0 : Nat) : Int)), .val (.int .u8 ((0 : Nat) : Int)), .val (.int .u8 ((0 : Nat) : Int)), .val (.int .u8 ((0 : Nat) : Int))]) [⟨0, .t 27⟩]), none⟩] [28] [so_ 29 (.call 29 [.t 26, .t 28]),
  mv_ 9 29] [0, 5, 9])
 (.seq (.ops [mv_ 30 9,
  mv_ 31 0,
  po_ 32 (.load true 20 (.t 5)),
  so_ 33 (.call 32 [.t 31, .t 32]),
  po_ 34 (.idxA 1 (.t 30) (.t 33)),
  po_ 35 (.load false 1 (.t 34)),
  mv_ 6 35,
  po_ 7 (.mov (ci_ 0))] [6, 7])
 (.ret))
def AyM : AsX := .seq (.seq (.ops [mv_ 12 8,
  po_ 13 (.bin 3 .neq (.t 12) (ci_ 0)),
  mv_ 14 13,
  ⟨some 15, .p (.mov (.t 0)), some ⟨14, false⟩⟩,
  ⟨some 16, .p (.load true 20 (.t 4)), some ⟨14, false⟩⟩,
  ⟨some 17, .s (.call 32 [.t 15, .t 16]), some ⟨14, false⟩⟩,
  ⟨some 18, .p (.bin 3 .lss (.t 17) (ci_ 0)), some ⟨14, false⟩⟩,
  po_ 19 (.pick (.t 14) (.c (.bool true)) (.t 18)),
  mv_ 20 19,
  ⟨some 21, .p (.mov (.t 0)), some ⟨20, false⟩⟩,
  ⟨some 22, .p (.load true 20 (.t 5)), some ⟨20, false⟩⟩,
  ⟨some 23, .s (.call 32 [.t 21, .t 22]), some ⟨20, false⟩⟩,
  ⟨some 24, .p (.bin 3 .lss (.t 23) (ci_ 0)), some ⟨20, false⟩⟩,
  po_ 25 (.pick (.t 20) (.c (.bool true)) (.t 24))] [0, 4, 5, 25])
 (.cond (.t 25)
 (.seq (.ops [po_ 6 (.mov (.c (.bool false))),
   po_ 7 (.mov (ci_ 80))] [6, 7])
  (.ret))
 (.skip)))
 Ay1
def Ayz : AsX := .seq (.ops [mv_ 10 0,
  so_ 11 (.call 27 [.t 10]),
  mv_ 8 11] [0, 4, 5, 8])
 AyM
def ACn : AsX := .seq (.ops [so_ 4 (.box (.t 1)),
  so_ 5 (.box (.t 2)),
  po_ 6 (.mov (.c (.bool false))),
  po_ 7 (.mov (ci_ 0))] [0, 4, 5])
 Ayz
def ACl : List VR := [.tmp 6, .tmp 7]
theorem AHR : Tryd.f14.body.bind (trC Tryd.prog Tryd.f14.ntmps) = some (er ACn) := by kernel_rfl
theorem AH3 : trR Tryd.prog Tryd.f14.results.toList = some ACl := by kernel_rfl
def ACW := AsU Ay1.eq_1
def ACM := AsU AyM.eq_1
def ACS := AsU Ayz.eq_1
def AGv := AsU ACn.eq_1
theorem AGD {K : TV → Prop} {e : Env} {H : List Ob} : res ACl e H K = res [.tmp 6, .tmp 7] e H K := AsT rfl
def AtX := (And.intro (And.intro (And.intro @ACW @ACM) (And.intro @ACS @AGv)) @AGD)
def AHi := Awo 36 Tryd.func14 AHR AH3 rfl

def ABi : AsX := .ops [mv_ 53 11,
  mv_ 54 0,
  mv_ 55 12,
  po_ 56 (.idxA 22 (.t 54) (.t 55)),
  po_ 57 (.fieldA 0 0 (.t 56)),
  po_ 58 (.load true 20 (.t 57)),
  ⟨some 59, .s (.bslice 20 1 (.arr 20 1 [.val (.int .u8 ((0 : Nat) : Int)), .val (.int .u8 ((0 : Nat) : Int)), .val (.int .u8 ((0 : Nat) : Int)), .val (.int .u8 ((0 : Nat) : Int)), .val (.int .u8 ((0 : Nat) : Int)), .val (.int .u8 ((0 : Nat) : Int)), .val (.int .u8 ((0 : Nat) : Int)), .val (.int .u8 ((0 : Nat) : Int)), .val (.int .u8 ((0 : Nat) : Int)), .val (.int .u8 ((0 : Nat) : Int)), .val (.int .u8 ((0 : Nat) : Int)), .val (.int .u8 ((0 : Nat) : Int)), .val (.int .u8 ((0 : Nat) : Int)), .val (.int .u8 ((0 : Nat) : Int)), .val (.int .u8 ((0 : Nat) : Int)), .val (.int .u8 ((0 : Nat) : Int)), .val (.int .u8 ((0 : Nat) : Int)), .val (.int .u8 ((0 : Nat) : Int)), .val (.int .u8 ((0 : Nat) : Int)), .val (.int .u8 ((0 : Nat) : Int))]) [⟨0, .t 58⟩]), none⟩,
  so_ 60 (.app 20 20 39 (.t 53) (.t 59)),
  mv_ 11 60] [0, 9, 10, 11, 12]
def ABp : AsX := .seq (.block 1 (.seq (.ops [mv_ 43 9,
  mv_ 44 12,
  po_ 45 (.idxA 1 (.t 43) (.t 44)),
  po_ 46 (.load false 1 (.t 45)),
  mv_ 47 46,
  ⟨some 48, .p (.mov (.t 10)), some ⟨47, true⟩⟩,
  ⟨some 49, .p (.mov (.t 12)), some ⟨47, true⟩⟩,
  ⟨some 50, .p (.idxA 1 (.t 48) (.t 49)), some ⟨47, true⟩⟩,
  ⟨some 51, .p (.load false 1 (.t 50)), some ⟨47, true⟩⟩,
  po_ 52 (.pick (.t 47) (.t 51) (.c (.bool false)))] [0, 9, 10, 11, 12, 52])
 (.cond (.t 52)
 ABi
 (.skip))))
 (.ops [mv_ 41 12,
  po_ 42 (.bin 3 .add (.t 41) (ci_ 1)),
  mv_ 12 42] [0, 9, 10, 11, 12])
def ABP : AsX := .seq (.seq (.ops [mv_ 37 12,
  mv_ 38 0,
  po_ 39 (.lenV (.t 38)),
  po_ 40 (.bin 3 .lss (.t 37) (.t 39))] [0, 9, 10, 11, 12, 40])
 (.cond (.t 40)
 (.skip)
 (.exit 0)))
 ABp
def AAO : AsX := .block 0 (.own 11 20 (.loop [0, 9, 10, 11, 12] ABP))
def AAZ : AsX := .seq (.opsZ [mv_ 61 0,
  mv_ 62 11] [62] [so_ 63 (.call 18 [.t 61, .t 62]),
  po_ 64 (.ext 0 (.t 63)),
  po_ 65 (.ext 1 (.t 63)),
  mv_ 6 64,
  mv_ 7 65] [6, 7])
 (.ret)
def AA9 : AsX := .seq (.seq (.ops [po_ 12 (.mov (ci_ 0))] [0, 9, 10, 11, 12])
 AAO)
 AAZ
def ABA : AsX := .seq (.ops [po_ 11 (.mov (.c (.slice none 0 0)))] [0, 9, 10, 11])
 AA9
def ABb : AsX := .seq (.opsZ [mv_ 33 0,
  po_ 34 (.load true 20 (.t 5)),
  ⟨some 35, .s (.bslice 20 1 (.arr 20 1 [.val (.int .u8 ((0 : Nat) : Int)), .val (.int .u8 ((0 : Nat) : Int)), .val (.int .u8 ((0 : Nat) : Int)), .val (.int .u8 ((0 : Nat) : Int)), .val (.int .u8 ((0 : Nat) : Int)), .val (.int .u8 ((0 : Nat) : Int)), .val (.int .u8 ((0 : Nat) : Int)), .val (.int .u8 ((0 : Nat) : Int)), .val (.int .u8 ((0 : Nat) : Int)), .val (.int .u8 ((0 : Nat) : Int)), .val (.int .u8 ((0 : Nat) : Int)), .val (.int .u8 ((0 : Nat) : Int)), .val (.int .u8 ((0 : Nat) : Int)), .val (.int .u8 ((0 : Nat) : Int)), .val (.int .u8 ((0 : Nat) : Int)), .val (.int .u8 ((0 : Nat) : Int)), .val (.int .u8 ((0 : Nat) : Int)), .val (.int .u8 ((0 : Nat) : Int)), .val (.int .u8 ((0 : Nat) : Int)), .val (.int .u8 ((0 : Nat) : Int))]) [⟨0, .t 34⟩]), none⟩] [35] [so_ 36 (.call 29 [.t 33, .t 35]),
  mv_ 10 36] [0, 9, 10])
 ABA
def ABo : AsX := .seq (.opsZ [mv_ 29 0,
  po_ 30 (.load true 20 (.t 4)),
  ⟨some 31, .s (.bslice 20 1 (.arr 20 1 [.val (.int .u8 ((0 : Nat) : Int)), .val (.int .u8 ((0 : Nat) : Int)), .val (.int .u8 ((0 : Nat) : Int)), .val (.int .u8 ((0 : Nat) : Int)), .val (.int .u8 ((0 : Nat) : Int)), .val (.int .u8 ((0 : Nat) : Int)), .val (.int .u8 ((0 : Nat) : Int)), .val (.int .u8 ((0 : Nat) : Int)), .val (.int .u8 ((0 : Nat) : Int)), .val (.int .u8 ((0 : Nat) : Int)), .val (.int .u8 ((0 : Nat) : Int)), .val (.int .u8 ((0 : Nat) : Int)), .val (.int .u8 ((0 : Nat) : Int)), .val (.int .u8 ((0 : Nat) : Int)), .val (.int .u8 ((0 : Nat) : Int)), .val (.int .u8 ((0 : Nat) : Int)), .val (.int .u8 ((0 : Nat) : Int)), .val (.int .u8 ((0 : Nat) : Int)), .val (.int .u8 ((0 : Nat) : Int)), .val (.int .u8 ((0 : Nat) : Int))]) [⟨0, .t 30⟩]), none⟩] [31] [so_ 32 (.call 29 [.t 29, .t 31]),
  mv_ 9 32] [0, 5, 9])
 ABb
def AAm : AsX := .seq (.seq (.ops [mv_ 15 8,
  po_ 16 (.bin 3 .neq (.t 15) (ci_ 0)),
  mv_ 17 16,
  ⟨some 18, .p (.mov (.t 0)), some ⟨17, false⟩⟩,
  ⟨some 19, .p (.load true 20 (.t 4)), some ⟨17, false⟩⟩,
  ⟨some 20, .s (.call 32 [.t 18, .t 19]), some ⟨17, false⟩⟩,
  ⟨some 21, .p (.bin 3 .lss (.t 20) (ci_ 0)), some ⟨17, false⟩⟩,
  po_ 22 (.pick (.t 17) (.c (.bool true)) (.t 21)),
  mv_ 23 22,
  ⟨some 24, .p (.mov (.t 0)), some ⟨23, false⟩⟩,
  ⟨some 25, .p (.load true 20 (.t 5)), some ⟨23, false⟩⟩,
  ⟨some 26, .s (.call 32 [.t 24, .t 25]), some ⟨23, false⟩⟩,
  ⟨some 27, .p (.bin 3 .lss (.t 26) (ci_ 0)), some ⟨23, false⟩⟩,
  po_ 28 (.pick (.t 23) (.c (.bool true)) (.t 27))] [0, 4, 5, 28])
 (.cond (.t 28)
 (.seq (.ops [po_ 6 (.mov (.c (.slice none 0 0))),
   po_ 7 (.mov (ci_ 80))] [6, 7])
  (.ret))
 (.skip)))
 ABo
def AAq : AsX := .seq (.ops [mv_ 13 0,
  so_ 14 (.call 27 [.t 13]),
  mv_ 8 14] [0, 4, 5, 8])
 AAm
def AF2 : AsX := .seq (.ops [so_ 4 (.box (.t 1)),
  so_ 5 (.box (.t 2)),
  po_ 6 (.mov (.c (.slice none 0 0))),
  po_ 7 (.mov (ci_ 0))] [0, 4, 5])
 AAq
def AGg : List VR := [.tmp 6, .tmp 7]
theorem AJW : Tryd.f16.body.bind (trC Tryd.prog Tryd.f16.ntmps) = some (er AF2) := by kernel_rfl
theorem AKO : trR Tryd.prog Tryd.f16.results.toList = some AGg := by kernel_rfl
def AEY := AsU ABi.eq_1
def AFV := AsU ABp.eq_1
def AFr := AsU ABP.eq_1
def AFn := AsU AAO.eq_1
def AE5 := AsU AAZ.eq_1
def AFb := AsU AA9.eq_1
def AEW := AsU ABA.eq_1
def AE0 := AsU ABb.eq_1
def AFa := AsU ABo.eq_1
def ADa := AsU AAm.eq_1
def ADv := AsU AAq.eq_1
def AH5 := AsU AF2.eq_1
theorem AHZ {K : TV → Prop} {e : Env} {H : List Ob} : res AGg e H K = res [.tmp 6, .tmp 7] e H K := AsT rfl
def Atv := (And.intro (And.intro (And.intro (And.intro @AEY @AFV) (And.intro @AFr @AFn)) (And.intro (And.intro @AE5 @AFb) (And.intro @AEW @AE0))) (And.intro (And.intro (And.intro @AFa @ADa) (And.intro @ADv @AH5)) @AHZ))
def AJg := Awo 66 Tryd.func16 AJW AKO rfl

def AAz : AsX := .seq (.ops [mv_ 46 12,
  mv_ 47 10,
  po_ 48 (.bin 3 .neq (.t 46) (.t 47)),
  mv_ 49 48,
  ⟨some 50, .p (.mov (.t 13)), some ⟨49, true⟩⟩,
  ⟨some 51, .p (.mov (.t 0)), some ⟨49, true⟩⟩,
  ⟨some 52, .p (.mov (.t 9)), some ⟨49, true⟩⟩,
  ⟨some 53, .p (.mov (.t 10)), some ⟨49, true⟩⟩,
  ⟨some 54, .p (.idxA 20 (.t 52) (.t 53)), some ⟨49, true⟩⟩,
  ⟨some 55, .p (.load true 20 (.t 54)), some ⟨49, true⟩⟩,
  ⟨some 56, .s (.call 32 [.t 51, .t 55]), some ⟨49, true⟩⟩,
  ⟨some 57, .p (.idxA 1 (.t 50) (.t 56)), some ⟨49, true⟩⟩,
  ⟨some 58, .p (.load false 1 (.t 57)), some ⟨49, true⟩⟩,
  po_ 59 (.pick (.t 49) (.t 58) (.c (.bool false)))] [0, 8, 9, 10, 11, 12, 59])
 (.cond (.t 59)
 (.ops [po_ 11 (.mov (.c (.bool false)))] [0, 8, 9, 10, 11, 12])
 (.skip))
def AzP : AsX := .seq (.block 3 (.seq (.opsZ [mv_ 39 0,
  mv_ 40 9,
  mv_ 41 12,
  po_ 42 (.idxA 20 (.t 40) (.t 41)),
  po_ 43 (.load true 20 (.t 42)),
  ⟨some 44, .s (.bslice 20 1 (.arr 20 1 [.val (.int .u8 ((0 : Nat) : Int)), .val (.int .u8 ((0 : Nat) : Int)), .val (.int .u8 ((0 : Nat) : Int)), .val (.int .u8 ((0 : Nat) : Int)), .val (.int .u8 ((0 : Nat) : Int)), .val (.int .u8 ((0 : Nat) : Int)), .val (.int .u8 ((0 : Nat) : Int)), .val (.int .u8 ((0 : Nat) : Int)), .val (.int .u8 ((0 : Nat) : Int)), .val (.int .u8 ((0 : Nat) : Int)), .val (.int .u8 ((0 : Nat) : Int)), .val (.int .u8 ((0 : Nat) : Int)), .val (.int .u8 ((0 : Nat) : Int)), .val (.int .u8 ((0 : Nat) : Int)), .val (.int .u8 ((0 : Nat) : Int)), .val (.int .u8 ((0 : Nat) : Int)), .val (.int .u8 ((0 : Nat) : Int)), .val (.int .u8 ((0 : Nat) : Int)), .val (.int .u8 ((0 : Nat) : Int)), .val (.int .u8 ((0 : Nat) : Int))]) [⟨0, .t 43⟩]), none⟩] [44] [so_ 45 (.call 29 [.t 39, .t 44]),
  mv_ 13 45] [0, 8, 9, 10, 11, 12, 13])
 AAz))
 (.ops [mv_ 37 12,
  po_ 38 (.bin 3 .add (.t 37) (ci_ 1)),
  mv_ 12 38] [0, 8, 9, 10, 11, 12])
def AAc : AsX := .seq (.seq (.ops [mv_ 33 12,
  mv_ 34 9,
  po_ 35 (.lenV (.t 34)),
  po_ 36 (.bin 3 .lss (.t 33) (.t 35))] [0, 8, 9, 10, 11, 12, 36])
 (.cond (.t 36)
 (.skip)
 (.exit 2)))
 AzP
def Azn : AsX := .block 2 (.loop [0, 8, 9, 10, 11, 12] AAc)
def Azm : AsX := .ops [mv_ 61 8,
  mv_ 62 9,
  mv_ 63 10,
  po_ 64 (.idxA 20 (.t 62) (.t 63)),
  po_ 65 (.load true 20 (.t 64)),
  ⟨some 66, .s (.bslice 20 1 (.arr 20 1 [.val (.int .u8 ((0 : Nat) : Int)), .val (.int .u8 ((0 : Nat) : Int)), .val (.int .u8 ((0 : Nat) : Int)), .val (.int .u8 ((0 : Nat) : Int)), .val (.int .u8 ((0 : Nat) : Int)), .val (.int .u8 ((0 : Nat) : Int)), .val (.int .u8 ((0 : Nat) : Int)), .val (.int .u8 ((0 : Nat) : Int)), .val (.int .u8 ((0 : Nat) : Int)), .val (.int .u8 ((0 : Nat) : Int)), .val (.int .u8 ((0 : Nat) : Int)), .val (.int .u8 ((0 : Nat) : Int)), .val (.int .u8 ((0 : Nat) : Int)), .val (.int .u8 ((0 : Nat) : Int)), .val (.int .u8 ((0 : Nat) : Int)), .val (.int .u8 ((0 : Nat) : Int)), .val (.int .u8 ((0 : Nat) : Int)), .val (.int .u8 ((0 : Nat) : Int)), .val (.int .u8 ((0 : Nat) : Int)), .val (.int .u8 ((0 : Nat) : Int))]) [⟨0, .t 65⟩]), none⟩,
  so_ 67 (.app 20 20 39 (.t 61) (.t 66)),
  mv_ 8 67] [0, 8, 9, 10]
def Azy : AsX := .seq (.ops [mv_ 60 11] [0, 8, 9, 10, 60])
 (.cond (.t 60)
 Azm
 (.skip))
def Azo : AsX := .seq (.seq (.ops [po_ 12 (.mov (ci_ 0))] [0, 8, 9, 10, 11, 12])
 Azn)
 Azy
def Azz : AsX := .ops [mv_ 31 10,
  po_ 32 (.bin 3 .add (.t 31) (ci_ 1)),
  mv_ 10 32] [0, 8, 9, 10]
def AzY : AsX := .seq (.block 1 (.seq (.ops [po_ 11 (.mov (.c (.bool true)))] [0, 8, 9, 10, 11])
 Azo))
 Azz
def AyH : AsX := .seq (.seq (.ops [mv_ 27 10,
  mv_ 28 9,
  po_ 29 (.lenV (.t 28)),
  po_ 30 (.bin 3 .lss (.t 27) (.t 29))] [0, 8, 9, 10, 30])
 (.cond (.t 30)
 (.skip)
 (.exit 0)))
 AzY
def AyS : AsX := .block 0 (.own 8 20 (.loop [0, 8, 9, 10] AyH))
def AyJ : AsX := .seq (.ops [mv_ 68 8,
  mv_ 4 68,
  po_ 5 (.mov (ci_ 0))] [4, 5])
 (.ret)
def AyU : AsX := .seq (.seq (.ops [po_ 10 (.mov (ci_ 0))] [0, 8, 9, 10])
 AyS)
 AyJ
def AyG : AsX := .seq (.ops [mv_ 25 1,
  so_ 26 (.call 34 [.t 25]),
  mv_ 9 26] [0, 8, 9])
 AyU
def Ay2 : AsX := .seq (.ops [po_ 8 (.mov (.c (.slice none 0 0)))] [0, 1, 8])
 AyG
def AyW : AsX := .seq (.seq (.ops [mv_ 19 6,
  po_ 20 (.bin 3 .neq (.t 19) (ci_ 0)),
  mv_ 21 20,
  ⟨some 22, .p (.mov (.t 7)), some ⟨21, false⟩⟩,
  ⟨some 23, .p (.un .not (.t 22)), some ⟨21, false⟩⟩,
  po_ 24 (.pick (.t 21) (.c (.bool true)) (.t 23))] [0, 1, 24])
 (.cond (.t 24)
 (.seq (.ops [po_ 4 (.mov (.c (.slice none 0 0))),
   po_ 5 (.mov (ci_ 80))] [4, 5])
  (.ret))
 (.skip)))
 Ay2
def Ayv : AsX := .seq (.ops [mv_ 16 0,
  mv_ 17 1,
  so_ 18 (.call 28 [.t 16, .t 17]),
  mv_ 7 18] [0, 1, 6, 7])
 AyW
def Ayu : AsX := .seq (.ops [mv_ 14 0,
  so_ 15 (.call 27 [.t 14]),
  mv_ 6 15] [0, 1, 6])
 Ayv
def AEM : AsX := .seq (.ops [po_ 4 (.mov (.c (.slice none 0 0))),
  po_ 5 (.mov (ci_ 0))] [0, 1])
 Ayu
def ADR : List VR := [.tmp 4, .tmp 5]
theorem AI4 : Tryd.f18.body.bind (trC Tryd.prog Tryd.f18.ntmps) = some (er AEM) := by kernel_rfl
theorem AJc : trR Tryd.prog Tryd.f18.results.toList = some ADR := by kernel_rfl
def ADT := AsU AAz.eq_1
def ADJ := AsU AzP.eq_1
def AEG := AsU AAc.eq_1
def ADg := AsU Azn.eq_1
def AEB := AsU Azm.eq_1
def AC9 := AsU Azy.eq_1
def AEK := AsU Azo.eq_1
def AEg := AsU Azz.eq_1
def ADA := AsU AzY.eq_1
def ACX := AsU AyH.eq_1
def ACT := AsU AyS.eq_1
def AC0 := AsU AyJ.eq_1
def ACD := AsU AyU.eq_1
def ACO := AsU AyG.eq_1
def ACP := AsU Ay2.eq_1
def ACF := AsU AyW.eq_1
def ACY := AsU Ayv.eq_1
def ACR := AsU Ayu.eq_1
def AHs := AsU AEM.eq_1
theorem AHl {K : TV → Prop} {e : Env} {H : List Ob} : res ADR e H K = res [.tmp 4, .tmp 5] e H K := AsT rfl
def Atl := (And.intro (And.intro (And.intro (And.intro (And.intro @ADT @ADJ) (And.intro @AEG @ADg)) (And.intro (And.intro @AEB @AC9) (And.intro @AEK @AEg))) (And.intro (And.intro (And.intro @ADA @ACX) (And.intro @ACT @AC0)) (And.intro (And.intro @ACD @ACO) (And.intro @ACP @ACF)))) (And.intro (And.intro @ACY @ACR) (And.intro @AHs @AHl)))
def AHT := Awo 69 Tryd.func18 AI4 AJc rfl

def AAW : AsX := .seq (.seq (.ops [mv_ 6 5,
  mv_ 7 1,
  po_ 8 (.lenV (.t 7)),
  po_ 9 (.bin 3 .lss (.t 6) (.t 8))] [0, 1, 5, 9])
 (.cond (.t 9)
 (.skip)
 (.exit 0)))
 (.seq (.block 1 (.seq (.ops [mv_ 12 0,
  mv_ 13 1,
  mv_ 14 5,
  po_ 15 (.idxA 20 (.t 13) (.t 14)),
  po_ 16 (.load true 20 (.t 15)),
  so_ 17 (.call 32 [.t 12, .t 16]),
  po_ 18 (.bin 3 .lss (.t 17) (ci_ 0))] [0, 1, 5, 18])
 (.cond (.t 18)
 (.seq (.ops [po_ 4 (.mov (.c (.bool false)))] [4])
  (.ret))
 (.skip))))
 (.ops [mv_ 10 5,
  po_ 11 (.bin 3 .add (.t 10) (ci_ 1)),
  mv_ 5 11] [0, 1, 5]))
def ABh : AsX := .block 0 (.loop [0, 1, 5] AAW)
def AAV : AsX := .seq (.ops [po_ 4 (.mov (.c (.bool true)))] [4])
 (.ret)
def AA0 : AsX := .seq (.seq (.ops [po_ 5 (.mov (ci_ 0))] [0, 1, 5])
 ABh)
 AAV
def AF0 : AsX := .seq (.ops [po_ 4 (.mov (.c (.bool false)))] [0, 1])
 AA0
def AF6 : List VR := [.tmp 4]
theorem AKw : Tryd.f28.body.bind (trC Tryd.prog Tryd.f28.ntmps) = some (er AF0) := by kernel_rfl
theorem AJM : trR Tryd.prog Tryd.f28.results.toList = some AF6 := by kernel_rfl
def AFP := AsU AAW.eq_1
def AEZ := AsU ABh.eq_1
def AFB := AsU AAV.eq_1
def AE3 := AsU AA0.eq_1
def AH8 := AsU AF0.eq_1
theorem AH9 {K : TV → Prop} {e : Env} {H : List Ob} : res AF6 e H K = res [.tmp 4] e H K := AsT rfl
def Aw7 := (And.intro (And.intro (And.intro @AFP @AEZ) (And.intro @AFB @AE3)) (And.intro @AH8 @AH9))
def AJa := Awo 19 Tryd.func28 AKw AJM rfl

def AAk : AsX := .seq (.seq (.draw 11 [mv_ 13 5,
  mv_ 14 3,
  po_ 15 (.lenV (.t 14)),
  po_ 16 (.bin 3 .lss (.t 13) (.t 15)),
  mv_ 17 16,
  ⟨some 18, .p (.mov (.t 3)), some ⟨17, true⟩⟩,
  ⟨some 19, .p (.mov (.t 5)), some ⟨17, true⟩⟩,
  ⟨some 20, .p (.idxA 20 (.t 18) (.t 19)), some ⟨17, true⟩⟩,
  ⟨some 21, .p (.slA 20 1 (.t 20) none none), some ⟨17, true⟩⟩,
  ⟨some 22, .p (.b2s (.t 21)), some ⟨17, true⟩⟩,
  ⟨some 23, .p (.mov (.t 0)), some ⟨17, true⟩⟩,
  ⟨some 24, .p (.mov (.t 4)), some ⟨17, true⟩⟩,
  ⟨some 25, .p (.idxA 20 (.t 23) (.t 24)), some ⟨17, true⟩⟩,
  ⟨some 26, .p (.slA 20 1 (.t 25) none none), some ⟨17, true⟩⟩,
  ⟨some 27, .p (.b2s (.t 26)), some ⟨17, true⟩⟩,
  ⟨some 28, .p (.bin 9 .lss (.t 22) (.t 27)), some ⟨17, true⟩⟩,
  po_ 29 (.pick (.t 17) (.t 28) (.c (.bool false)))] [0, 3, 4, 5, 29])
 (.cond (.t 29)
 (.skip)
 (.exit 2)))
 (.block 3 (.ops [mv_ 30 5,
  po_ 31 (.bin 3 .add (.t 30) (ci_ 1)),
  mv_ 5 31] [0, 3, 4, 5]))
def Az1 : AsX := .seq (.ops [mv_ 52 6,
  mv_ 53 0,
  mv_ 54 4,
  po_ 55 (.idxA 20 (.t 53) (.t 54)),
  po_ 56 (.load true 20 (.t 55)),
  ⟨some 57, .s (.bslice 20 1 (.arr 20 1 [.val (.int .u8 ((0 : Nat) : Int)), .val (.int .u8 ((0 : Nat) : Int)), .val (.int .u8 ((0 : Nat) : Int)), .val (.int .u8 ((0 : Nat) : Int)), .val (.int .u8 ((0 : Nat) : Int)), .val (.int .u8 ((0 : Nat) : Int)), .val (.int .u8 ((0 : Nat) : Int)), .val (.int .u8 ((0 : Nat) : Int)), .val (.int .u8 ((0 : Nat) : Int)), .val (.int .u8 ((0 : Nat) : Int)), .val (.int .u8 ((0 : Nat) : Int)), .val (.int .u8 ((0 : Nat) : Int)), .val (.int .u8 ((0 : Nat) : Int)), .val (.int .u8 ((0 : Nat) : Int)), .val (.int .u8 ((0 : Nat) : Int)), .val (.int .u8 ((0 : Nat) : Int)), .val (.int .u8 ((0 : Nat) : Int)), .val (.int .u8 ((0 : Nat) : Int)), .val (.int .u8 ((0 : Nat) : Int)), .val (.int .u8 ((0 : Nat) : Int))]) [⟨0, .t 56⟩]), none⟩,
  so_ 58 (.app 20 20 39 (.t 52) (.t 57)),
  mv_ 6 58] [0, 3, 4, 5, 6])
 (.ops [mv_ 59 6,
  mv_ 60 3,
  mv_ 61 5,
  po_ 62 (.slV 20 (.t 60) (some (.t 61)) none),
  so_ 63 (.app 20 20 39 (.t 59) (.t 62)),
  mv_ 3 63] [0, 3, 4])
def Az0 : AsX := .seq (.ops [mv_ 47 6,
  mv_ 48 3,
  mv_ 49 5,
  po_ 50 (.slV 20 (.t 48) none (some (.t 49))),
  so_ 51 (.app 20 20 39 (.t 47) (.t 50)),
  mv_ 6 51] [0, 3, 4, 5, 6])
 Az1
def Axq : AsX := .seq (.ops [po_ 6 (.mov (.c (.slice none 0 0)))] [0, 3, 4, 5, 6])
 Az0
def Azx : AsX := .seq (.seq (.draw 10 [mv_ 32 5,
  mv_ 33 3,
  po_ 34 (.lenV (.t 33)),
  po_ 35 (.bin 3 .lss (.t 32) (.t 34)),
  mv_ 36 35,
  ⟨some 37, .p (.mov (.t 3)), some ⟨36, true⟩⟩,
  ⟨some 38, .p (.mov (.t 5)), some ⟨36, true⟩⟩,
  ⟨some 39, .p (.idxA 20 (.t 37) (.t 38)), some ⟨36, true⟩⟩,
  ⟨some 40, .p (.load true 20 (.t 39)), some ⟨36, true⟩⟩,
  ⟨some 41, .p (.mov (.t 0)), some ⟨36, true⟩⟩,
  ⟨some 42, .p (.mov (.t 4)), some ⟨36, true⟩⟩,
  ⟨some 43, .p (.idxA 20 (.t 41) (.t 42)), some ⟨36, true⟩⟩,
  ⟨some 44, .p (.load true 20 (.t 43)), some ⟨36, true⟩⟩,
  ⟨some 45, .p (.gen (.eqA 20 false) [.t 40, .t 44]), some ⟨36, true⟩⟩,
  po_ 46 (.pick (.t 36) (.t 45) (.c (.bool false)))] [0, 3, 4, 5, 46])
 (.cond (.t 46)
 (.exit 1)
 (.skip)))
 Axq
def AAA : AsX := .seq (.block 2 (.own 3 20 (.loop [0, 3, 4, 5] AAk)))
 Azx
def Az2 : AsX := .ops [mv_ 11 4,
  po_ 12 (.bin 3 .add (.t 11) (ci_ 1)),
  mv_ 4 12] [0, 3, 4]
def AzM : AsX := .seq (.block 1 (.seq (.ops [po_ 5 (.mov (ci_ 0))] [0, 3, 4, 5])
 AAA))
 Az2
def AzR : AsX := .seq (.seq (.ops [mv_ 7 4,
  mv_ 8 0,
  po_ 9 (.lenV (.t 8)),
  po_ 10 (.bin 3 .lss (.t 7) (.t 9))] [0, 3, 4, 10])
 (.cond (.t 10)
 (.skip)
 (.exit 0)))
 AzM
def AyK : AsX := .block 0 (.own 3 20 (.loop [0, 3, 4] AzR))
def Ay3 : AsX := .seq (.ops [mv_ 64 3,
  mv_ 2 64] [2])
 (.ret)
def AyX : AsX := .seq (.seq (.ops [po_ 4 (.mov (ci_ 0))] [0, 3, 4])
 AyK)
 Ay3
def AyC : AsX := .seq (.ops [po_ 3 (.mov (.c (.slice none 0 0)))] [0, 3])
 AyX
def AEk : AsX := .seq (.ops [po_ 2 (.mov (.c (.slice none 0 0)))] [0])
 AyC
def AD4 : List VR := [.tmp 2]
theorem AJl : Tryd.f34.body.bind (trC Tryd.prog Tryd.f34.ntmps) = some (er AEk) := by kernel_rfl
theorem AIU : trR Tryd.prog Tryd.f34.results.toList = some AD4 := by kernel_rfl
def Ax5 := AsU AAk.eq_1
def AD2 := AsU Az1.eq_1
def ADl := AsU Az0.eq_1
def ADG := AsU Axq.eq_1
def Aww := AsU Azx.eq_1
def AEo := AsU AAA.eq_1
def Awt := AsU Az2.eq_1
def AEA := AsU AzM.eq_1
def AEb := AsU AzR.eq_1
def ACI := AsU AyK.eq_1
def ACU := AsU Ay3.eq_1
def AC1 := AsU AyX.eq_1
def ACH := AsU AyC.eq_1
def AHe := AsU AEk.eq_1
theorem AHG {K : TV → Prop} {e : Env} {H : List Ob} : res AD4 e H K = res [.tmp 2] e H K := AsT rfl
def Ave := (And.intro (And.intro (And.intro (And.intro @Ax5 @AD2) (And.intro @ADl @ADG)) (And.intro (And.intro @Aww @AEo) (And.intro @Awt @AEA))) (And.intro (And.intro (And.intro @AEb @ACI) (And.intro @ACU @AC1)) (And.intro (And.intro @ACH @AHe) @AHG)))
def AHN := Awo 65 Tryd.func34 AJl AIU rfl

def AxC : AsX := .seq (.ops [mv_ 89 10,
  mv_ 90 19,
  so_ 91 (.call 18 [.t 89, .t 90]),
  mv_ 88 91,
  po_ 92 (.ext 0 (.t 88)),
  po_ 93 (.ext 1 (.t 88)),
  mv_ 20 92,
  mv_ 14 93] [12, 14, 18, 20])
 (.seq (.ops [mv_ 94 18,
  mv_ 95 20,
  so_ 96 (.call 11 [.t 94, .t 95]),
  mv_ 17 96] [12, 14, 17])
 (.seq (.ops [mv_ 97 17,
  mv_ 98 97,
  ⟨some 99, .p (.mov (.t 12)), some ⟨98, true⟩⟩,
  ⟨some 100, .s (.call 12 [.t 99]), some ⟨98, true⟩⟩,
  ⟨some 101, .p (.mov (.t 14)), some ⟨98, true⟩⟩,
  ⟨some 102, .p (.bin 3 .eql (.t 100) (.t 101)), some ⟨98, true⟩⟩,
  po_ 103 (.pick (.t 98) (.t 102) (.c (.bool false))),
  mv_ 8 103] [8])
 (.ret)))
def AxA : AsX := .seq (.ops [mv_ 86 3,
  so_ 87 (.call 9 [.t 86]),
  mv_ 19 87] [10, 12, 18, 19])
 AxC
def AvI : AsX := .seq (.ops [mv_ 81 0,
  mv_ 82 3,
  so_ 83 (.call 17 [.t 81, .t 82]),
  mv_ 80 83,
  po_ 84 (.ext 0 (.t 80)),
  po_ 85 (.ext 1 (.t 80)),
  mv_ 18 84,
  mv_ 12 85] [3, 10, 12, 18])
 AxA
def Axw : AsX := .seq (.seq (.ops [mv_ 72 17,
  po_ 73 (.un .not (.t 72)),
  mv_ 74 73,
  ⟨some 75, .p (.mov (.t 12)), some ⟨74, false⟩⟩,
  ⟨some 76, .s (.call 12 [.t 75]), some ⟨74, false⟩⟩,
  ⟨some 77, .p (.mov (.t 14)), some ⟨74, false⟩⟩,
  ⟨some 78, .p (.bin 3 .neq (.t 76) (.t 77)), some ⟨74, false⟩⟩,
  po_ 79 (.pick (.t 74) (.c (.bool true)) (.t 78))] [0, 3, 10, 79])
 (.cond (.t 79)
 (.seq (.ops [po_ 8 (.mov (.c (.bool false)))] [8])
  (.ret))
 (.skip)))
 AvI
def Axv : AsX := .seq (.ops [mv_ 69 15,
  mv_ 70 16,
  so_ 71 (.call 11 [.t 69, .t 70]),
  mv_ 17 71] [0, 3, 10, 12, 14, 17])
 Axw
def AxB : AsX := .seq (.ops [mv_ 63 10,
  po_ 64 (.load true 20 (.t 5)),
  po_ 65 (.load true 20 (.t 6)),
  so_ 66 (.call 16 [.t 63, .t 64, .t 65]),
  mv_ 62 66,
  po_ 67 (.ext 0 (.t 62)),
  po_ 68 (.ext 1 (.t 62)),
  mv_ 16 67,
  mv_ 14 68] [0, 3, 10, 12, 14, 15, 16])
 Axv
def Axz : AsX := .seq (.ops [mv_ 56 0,
  po_ 57 (.load true 20 (.t 5)),
  po_ 58 (.load true 20 (.t 6)),
  so_ 59 (.call 15 [.t 56, .t 57, .t 58]),
  mv_ 55 59,
  po_ 60 (.ext 0 (.t 55)),
  po_ 61 (.ext 1 (.t 55)),
  mv_ 15 60,
  mv_ 12 61] [0, 3, 5, 6, 10, 12, 15])
 AxB
def AxE : AsX := .seq (.seq (.ops [mv_ 46 11,
  mv_ 47 13,
  po_ 48 (.eqB (.t 46) (.t 47) true),
  mv_ 49 48,
  ⟨some 50, .p (.mov (.t 12)), some ⟨49, false⟩⟩,
  ⟨some 51, .s (.call 12 [.t 50]), some ⟨49, false⟩⟩,
  ⟨some 52, .p (.mov (.t 14)), some ⟨49, false⟩⟩,
  ⟨some 53, .p (.bin 3 .neq (.t 51) (.t 52)), some ⟨49, false⟩⟩,
  po_ 54 (.pick (.t 49) (.c (.bool true)) (.t 53))] [0, 3, 5, 6, 10, 54])
 (.cond (.t 54)
 (.seq (.ops [po_ 8 (.mov (.c (.bool false)))] [8])
  (.ret))
 (.skip)))
 Axz
def AxD : AsX := .seq (.ops [mv_ 40 10,
  po_ 41 (.load true 20 (.t 5)),
  po_ 42 (.load true 20 (.t 6)),
  so_ 43 (.call 14 [.t 40, .t 41, .t 42]),
  mv_ 39 43,
  po_ 44 (.ext 0 (.t 39)),
  po_ 45 (.ext 1 (.t 39)),
  mv_ 13 44,
  mv_ 14 45] [0, 3, 5, 6, 10, 11, 12, 13, 14])
 AxE
def Axk : AsX := .seq (.ops [mv_ 33 0,
  po_ 34 (.load true 20 (.t 5)),
  po_ 35 (.load true 20 (.t 6)),
  so_ 36 (.call 13 [.t 33, .t 34, .t 35]),
  mv_ 32 36,
  po_ 37 (.ext 0 (.t 32)),
  po_ 38 (.ext 1 (.t 32)),
  mv_ 11 37,
  mv_ 12 38] [0, 3, 5, 6, 10, 11, 12])
 AxD
def Axd : AsX := .seq (.ops [mv_ 30 0,
  so_ 31 (.call 8 [.t 30]),
  mv_ 10 31] [0, 3, 5, 6, 10])
 Axk
def Axn : AsX := .seq (.seq (.ops [mv_ 23 9,
  po_ 24 (.un .not (.t 23)),
  mv_ 25 24,
  ⟨some 26, .p (.mov (.t 3)), some ⟨25, false⟩⟩,
  ⟨some 27, .p (.lenV (.t 26)), some ⟨25, false⟩⟩,
  ⟨some 28, .p (.bin 3 .gtr (.t 27) (ci_ 40)), some ⟨25, false⟩⟩,
  po_ 29 (.pick (.t 25) (.c (.bool true)) (.t 28))] [0, 3, 5, 6, 29])
 (.cond (.t 29)
 (.seq (.ops [po_ 8 (.mov (.c (.bool true)))] [8])
  (.ret))
 (.skip)))
 Axd
def Axf : AsX := .seq (.ops [mv_ 21 0,
  so_ 22 (.call 6 [.t 21]),
  mv_ 9 22] [0, 3, 5, 6, 9])
 Axn
def Ayt : AsX := .seq (.ops [so_ 5 (.box (.t 1)),
  so_ 6 (.box (.t 2)),
  po_ 8 (.mov (.c (.bool false)))] [0, 3, 5, 6])
 Axf
def AwW : List VR := [.tmp 8]
theorem AE2 : Tryd.f4.body.bind (trC Tryd.prog Tryd.f4.ntmps) = some (er Ayt) := by kernel_rfl
theorem AE8 : trR Tryd.prog Tryd.f4.results.toList = some AwW := by kernel_rfl
def AAD := AsU AxC.eq_1
def AAH := AsU AxA.eq_1
def AAC := AsU AvI.eq_1
def Atp := AsU Axw.eq_1
def Atn := AsU Axv.eq_1
def Atm := AsU AxB.eq_1
def As6 := AsU Axz.eq_1
def As4 := AsU AxE.eq_1
def Aty := AsU AxD.eq_1
def Awx := AsU Axk.eq_1
def Avf := AsU Axd.eq_1
def AwC := AsU Axn.eq_1
def AwA := AsU Axf.eq_1
def Ax0 := AsU Ayt.eq_1
theorem As5 {K : TV → Prop} {e : Env} {H : List Ob} : res AwW e H K = res [.tmp 8] e H K := AsT rfl
def Ati := (And.intro (And.intro (And.intro (And.intro @AAD @AAH) (And.intro @AAC @Atp)) (And.intro (And.intro @Atn @Atm) (And.intro @As6 @As4))) (And.intro (And.intro (And.intro @Aty @Awx) (And.intro @Avf @AwC)) (And.intro (And.intro @AwA @Ax0) @As5)))
def AED := Awo 104 Tryd.func4 AE2 AE8 rfl

def ACy : AsX := .seq (.block 1 (.seq (.draw 4 [mv_ 17 0,
  mv_ 18 5,
  po_ 19 (.idxA 20 (.t 17) (.t 18)),
  po_ 20 (.load true 20 (.t 19)),
  mv_ 21 1,
  mv_ 22 5,
  po_ 23 (.idxA 20 (.t 21) (.t 22)),
  po_ 24 (.load true 20 (.t 23)),
  po_ 25 (.gen (.eqA 20 true) [.t 20, .t 24])] [0, 1, 5, 25])
 (.cond (.t 25)
 (.seq (.ops [po_ 4 (.mov (.c (.bool false)))] [4])
  (.ret))
 (.skip))))
 (.ops [mv_ 15 5,
  po_ 16 (.bin 3 .add (.t 15) (ci_ 1)),
  mv_ 5 16] [0, 1, 5])
def ACv : AsX := .seq (.seq (.ops [mv_ 11 5,
  mv_ 12 0,
  po_ 13 (.lenV (.t 12)),
  po_ 14 (.bin 3 .lss (.t 11) (.t 13))] [0, 1, 5, 14])
 (.cond (.t 14)
 (.skip)
 (.exit 0)))
 ACy
def ACt : AsX := .block 0 (.loop [0, 1, 5] ACv)
def ACw : AsX := .seq (.ops [po_ 4 (.mov (.c (.bool true)))] [4])
 (.ret)
def ACm : AsX := .seq (.seq (.ops [po_ 5 (.mov (ci_ 0))] [0, 1, 5])
 ACt)
 ACw
def ACr : AsX := .seq (.seq (.ops [mv_ 6 0,
  po_ 7 (.lenV (.t 6)),
  mv_ 8 1,
  po_ 9 (.lenV (.t 8)),
  po_ 10 (.bin 3 .neq (.t 7) (.t 9))] [0, 1, 10])
 (.cond (.t 10)
 (.seq (.ops [po_ 4 (.mov (.c (.bool false)))] [4])
  (.ret))
 (.skip)))
 ACm
def AHp : AsX := .seq (.ops [po_ 4 (.mov (.c (.bool false)))] [0, 1])
 ACr
def AG4 : List VR := [.tmp 4]
theorem ALI : Tryd.f11.body.bind (trC Tryd.prog Tryd.f11.ntmps) = some (er AHp) := by kernel_rfl
theorem ALE : trR Tryd.prog Tryd.f11.results.toList = some AG4 := by kernel_rfl
def AGG := AsU ACy.eq_1
def AGE := AsU ACv.eq_1
def AGt := AsU ACt.eq_1
def AGw := AsU ACw.eq_1
def AGB := AsU ACm.eq_1
def AGC := AsU ACr.eq_1
def AJz := AsU AHp.eq_1
theorem AIW {K : TV → Prop} {e : Env} {H : List Ob} : res AG4 e H K = res [.tmp 4] e H K := AsT rfl
def AxP := (And.intro (And.intro (And.intro @AGG @AGE) (And.intro @AGt @AGw)) (And.intro (And.intro @AGB @AGC) (And.intro @AJz @AIW)))
def AGe := Awo 26 Tryd.func11 ALI ALE rfl

def Avq : AsX := .seq (.ops [po_ 2 (.mov (.c (.slice none 0 0)))] [0])
 (.seq (.seq (.ops [mv_ 3 0,
  so_ 4 (.eqS (.t 3) false)] [0, 4])
 (.cond (.t 4)
 (.seq (.ops [po_ 2 (.mov (.c (.slice none 0 0)))] [2])
  (.ret))
 (.skip)))
 (.seq (.ops [so_ 5 (.bslice 20 0 (.arr 20 1 [.val (.int .u8 ((0 : Nat) : Int)), .val (.int .u8 ((0 : Nat) : Int)), .val (.int .u8 ((0 : Nat) : Int)), .val (.int .u8 ((0 : Nat) : Int)), .val (.int .u8 ((0 : Nat) : Int)), .val (.int .u8 ((0 : Nat) : Int)), .val (.int .u8 ((0 : Nat) : Int)), .val (.int .u8 ((0 : Nat) : Int)), .val (.int .u8 ((0 : Nat) : Int)), .val (.int .u8 ((0 : Nat) : Int)), .val (.int .u8 ((0 : Nat) : Int)), .val (.int .u8 ((0 : Nat) : Int)), .val (.int .u8 ((0 : Nat) : Int)), .val (.int .u8 ((0 : Nat) : Int)), .val (.int .u8 ((0 : Nat) : Int)), .val (.int .u8 ((0 : Nat) : Int)), .val (.int .u8 ((0 : Nat) : Int)), .val (.int .u8 ((0 : Nat) : Int)), .val (.int .u8 ((0 : Nat) : Int)), .val (.int .u8 ((0 : Nat) : Int))]) []),
  mv_ 6 0,
  so_ 7 (.app 20 20 40 (.t 5) (.t 6)),
  mv_ 2 7] [2])
 (.ret)))
def Avo : List VR := [.tmp 2]
theorem AxH : Tryd.f38.body.bind (trC Tryd.prog Tryd.f38.ntmps) = some (er Avq) := by kernel_rfl
theorem AxG : trR Tryd.prog Tryd.f38.results.toList = some Avo := by kernel_rfl
def Axj := AsU Avq.eq_1
theorem Axi {K : TV → Prop} {e : Env} {H : List Ob} : res Avo e H K = res [.tmp 2] e H K := AsT rfl
def Atb := (And.intro @Axj @Axi)
def Aud := Awo 8 Tryd.func38 AxH AxG rfl

def AuY : AsX := .seq (.ops [mv_ 45 0,
  mv_ 46 3,
  mv_ 47 4,
  mv_ 48 5,
  po_ 49 (.idxA 20 (.t 47) (.t 48)),
  po_ 50 (.load true 20 (.t 49)),
  po_ 51 (.idxA 20 (.t 45) (.t 46)),
  ⟨none, .s (.store 20 (.t 51) (.t 50)), none⟩] [0, 3, 4, 5])
 (.ops [mv_ 52 3,
  po_ 53 (.bin 3 .add (.t 52) (ci_ 1)),
  mv_ 3 53] [0, 3, 4, 5])
def AuK : AsX := .seq (.block 3 (.seq (.draw 5 [mv_ 35 4,
  mv_ 36 5,
  po_ 37 (.idxA 20 (.t 35) (.t 36)),
  po_ 38 (.load true 20 (.t 37)),
  mv_ 39 4,
  mv_ 40 5,
  po_ 41 (.bin 3 .sub (.t 40) (ci_ 1)),
  po_ 42 (.idxA 20 (.t 39) (.t 41)),
  po_ 43 (.load true 20 (.t 42)),
  po_ 44 (.gen (.eqA 20 true) [.t 38, .t 43])] [0, 3, 4, 5, 44])
 (.cond (.t 44)
 AuY
 (.skip))))
 (.ops [mv_ 33 5,
  po_ 34 (.bin 3 .add (.t 33) (ci_ 1)),
  mv_ 5 34] [0, 3, 4, 5])
def AuI : AsX := .seq (.seq (.ops [mv_ 29 5,
  mv_ 30 4,
  po_ 31 (.lenV (.t 30)),
  po_ 32 (.bin 3 .lss (.t 29) (.t 31))] [0, 3, 4, 5, 32])
 (.cond (.t 32)
 (.skip)
 (.exit 2)))
 AuK
def AuP : AsX := .block 2 (.loop [0, 3, 4, 5] AuI)
def AuT : AsX := .seq (.ops [mv_ 54 0,
  mv_ 55 3,
  po_ 56 (.slV 20 (.t 54) (some (.t 55)) none),
  ⟨none, .s (.clrS 20 (.arr 20 1 [.val (.int .u8 ((0 : Nat) : Int)), .val (.int .u8 ((0 : Nat) : Int)), .val (.int .u8 ((0 : Nat) : Int)), .val (.int .u8 ((0 : Nat) : Int)), .val (.int .u8 ((0 : Nat) : Int)), .val (.int .u8 ((0 : Nat) : Int)), .val (.int .u8 ((0 : Nat) : Int)), .val (.int .u8 ((0 : Nat) : Int)), .val (.int .u8 ((0 : Nat) : Int)), .val (.int .u8 ((0 : Nat) : Int)), .val (.int .u8 ((0 : Nat) : Int)), .val (.int .u8 ((0 : Nat) : Int)), .val (.int .u8 ((0 : Nat) : Int)), .val (.int .u8 ((0 : Nat) : Int)), .val (.int .u8 ((0 : Nat) : Int)), .val (.int .u8 ((0 : Nat) : Int)), .val (.int .u8 ((0 : Nat) : Int)), .val (.int .u8 ((0 : Nat) : Int)), .val (.int .u8 ((0 : Nat) : Int)), .val (.int .u8 ((0 : Nat) : Int))]) (.t 56)), none⟩] [0, 3])
 (.seq (.ops [mv_ 57 0,
  mv_ 58 3,
  po_ 59 (.slV 20 (.t 57) none (some (.t 58))),
  mv_ 2 59] [2])
 (.ret))
def AuL : AsX := .seq (.seq (.ops [po_ 5 (.mov (ci_ 1))] [0, 3, 4, 5])
 AuP)
 AuT
def AuM : AsX := .seq (.ops [mv_ 26 0,
  mv_ 27 3,
  po_ 28 (.slV 20 (.t 26) (some (.t 27)) none),
  mv_ 4 28] [0, 3, 4])
 AuL
def AuZ : AsX := .cond (.t 25)
 AuM
 (.skip)
def AuJ : AsX := .ops [mv_ 14 3,
  po_ 15 (.bin 3 .add (.t 14) (ci_ 1)),
  mv_ 3 15] [0, 3]
def AuE : AsX := .seq (.block 1 (.seq (.draw 5 [mv_ 16 0,
  mv_ 17 3,
  po_ 18 (.idxA 20 (.t 16) (.t 17)),
  po_ 19 (.load true 20 (.t 18)),
  mv_ 20 0,
  mv_ 21 3,
  po_ 22 (.bin 3 .sub (.t 21) (ci_ 1)),
  po_ 23 (.idxA 20 (.t 20) (.t 22)),
  po_ 24 (.load true 20 (.t 23)),
  po_ 25 (.gen (.eqA 20 false) [.t 19, .t 24])] [0, 3, 25])
 AuZ))
 AuJ
def AuD : AsX := .seq (.seq (.ops [mv_ 10 3,
  mv_ 11 0,
  po_ 12 (.lenV (.t 11)),
  po_ 13 (.bin 3 .lss (.t 10) (.t 12))] [0, 3, 13])
 (.cond (.t 13)
 (.skip)
 (.exit 0)))
 AuE
def AuF : AsX := .block 0 (.loop [0, 3] AuD)
def AuG : AsX := .seq (.ops [mv_ 60 0,
  mv_ 2 60] [2])
 (.ret)
def AuB : AsX := .seq (.seq (.ops [po_ 3 (.mov (ci_ 1))] [0, 3])
 AuF)
 AuG
def AuC : AsX := .seq (.seq (.ops [mv_ 6 0,
  po_ 7 (.lenV (.t 6)),
  po_ 8 (.bin 3 .lss (.t 7) (ci_ 2))] [0, 8])
 (.cond (.t 8)
 (.seq (.ops [mv_ 9 0,
   mv_ 2 9] [2])
  (.ret))
 (.skip)))
 AuB
def Avc : AsX := .seq (.ops [po_ 2 (.mov (.c (.slice none 0 0)))] [0])
 AuC
def Avb : List VR := [.tmp 2]
theorem Axm : Tryd.f48.body.bind (trC Tryd.prog Tryd.f48.ntmps) = some (er Avc) := by kernel_rfl
theorem Axb : trR Tryd.prog Tryd.f48.results.toList = some Avb := by kernel_rfl
def AvZ := AsU AuY.eq_1
def Awa := AsU AuK.eq_1
def AvX := AsU AuI.eq_1
def Av8 := AsU AuP.eq_1
def Av2 := AsU AuT.eq_1
def Av1 := AsU AuL.eq_1
def Av3 := AsU AuM.eq_1
def AvW := AsU AuZ.eq_1
def AvV := AsU AuJ.eq_1
def AvN := AsU AuE.eq_1
def AvS := AsU AuD.eq_1
def AvP := AsU AuF.eq_1
def AvL := AsU AuG.eq_1
def AvR := AsU AuB.eq_1
def AvM := AsU AuC.eq_1
def AwJ := AsU Avc.eq_1
theorem AwL {K : TV → Prop} {e : Env} {H : List Ob} : res Avb e H K = res [.tmp 2] e H K := AsT rfl
def Ata := (And.intro (And.intro (And.intro (And.intro (And.intro @AvZ @Awa) (And.intro @AvX @Av8)) (And.intro (And.intro @Av2 @Av1) (And.intro @Av3 @AvW))) (And.intro (And.intro (And.intro @AvV @AvN) (And.intro @AvS @AvP)) (And.intro (And.intro @AvL @AvR) (And.intro @AvM @AwJ)))) @AwL)
def Au8 := Awo 61 Tryd.func48 Axm Axb rfl

def Aui : AsX := .seq (.ops [mv_ 30 0,
  mv_ 31 5,
  po_ 32 (.load true 20 (.t 7)),
  po_ 33 (.idxA 20 (.t 30) (.t 31)),
  ⟨none, .s (.store 20 (.t 33) (.t 32)), none⟩] [0, 1, 5, 6])
 (.ops [mv_ 34 5,
  po_ 35 (.bin 3 .add (.t 34) (ci_ 1)),
  mv_ 5 35] [0, 1, 5, 6])
def Auk : AsX := .seq (.block 1 (.seq (.ops [mv_ 22 0,
  mv_ 23 6,
  po_ 24 (.idxA 20 (.t 22) (.t 23)),
  po_ 25 (.load true 20 (.t 24)),
  so_ 7 (.alloc (.arr 20 1 [.val (.int .u8 ((0 : Nat) : Int)), .val (.int .u8 ((0 : Nat) : Int)), .val (.int .u8 ((0 : Nat) : Int)), .val (.int .u8 ((0 : Nat) : Int)), .val (.int .u8 ((0 : Nat) : Int)), .val (.int .u8 ((0 : Nat) : Int)), .val (.int .u8 ((0 : Nat) : Int)), .val (.int .u8 ((0 : Nat) : Int)), .val (.int .u8 ((0 : Nat) : Int)), .val (.int .u8 ((0 : Nat) : Int)), .val (.int .u8 ((0 : Nat) : Int)), .val (.int .u8 ((0 : Nat) : Int)), .val (.int .u8 ((0 : Nat) : Int)), .val (.int .u8 ((0 : Nat) : Int)), .val (.int .u8 ((0 : Nat) : Int)), .val (.int .u8 ((0 : Nat) : Int)), .val (.int .u8 ((0 : Nat) : Int)), .val (.int .u8 ((0 : Nat) : Int)), .val (.int .u8 ((0 : Nat) : Int)), .val (.int .u8 ((0 : Nat) : Int))])),
  ⟨none, .s (.store 20 (.t 7) (.t 25)), none⟩] [0, 1, 5, 6, 7])
 (.seq (.ops [mv_ 26 1,
  po_ 27 (.load true 20 (.t 7)),
  so_ 28 (.callv (.t 26) [.t 27]),
  po_ 29 (.un .not (.t 28))] [0, 1, 5, 6, 7, 29])
 (.cond (.t 29)
 Aui
 (.skip)))))
 (.ops [mv_ 20 6,
  po_ 21 (.bin 3 .add (.t 20) (ci_ 1)),
  mv_ 6 21] [0, 1, 5, 6])
def Auo : AsX := .seq (.seq (.ops [mv_ 16 6,
  mv_ 17 0,
  po_ 18 (.lenV (.t 17)),
  po_ 19 (.bin 3 .lss (.t 16) (.t 18))] [0, 1, 5, 6, 19])
 (.cond (.t 19)
 (.skip)
 (.exit 0)))
 Auk
def Auh : AsX := .block 0 (.loop [0, 1, 5, 6] Auo)
def Aul : AsX := .seq (.ops [mv_ 36 0,
  mv_ 37 5,
  po_ 38 (.slV 20 (.t 36) (some (.t 37)) none),
  ⟨none, .s (.clrS 20 (.arr 20 1 [.val (.int .u8 ((0 : Nat) : Int)), .val (.int .u8 ((0 : Nat) : Int)), .val (.int .u8 ((0 : Nat) : Int)), .val (.int .u8 ((0 : Nat) : Int)), .val (.int .u8 ((0 : Nat) : Int)), .val (.int .u8 ((0 : Nat) : Int)), .val (.int .u8 ((0 : Nat) : Int)), .val (.int .u8 ((0 : Nat) : Int)), .val (.int .u8 ((0 : Nat) : Int)), .val (.int .u8 ((0 : Nat) : Int)), .val (.int .u8 ((0 : Nat) : Int)), .val (.int .u8 ((0 : Nat) : Int)), .val (.int .u8 ((0 : Nat) : Int)), .val (.int .u8 ((0 : Nat) : Int)), .val (.int .u8 ((0 : Nat) : Int)), .val (.int .u8 ((0 : Nat) : Int)), .val (.int .u8 ((0 : Nat) : Int)), .val (.int .u8 ((0 : Nat) : Int)), .val (.int .u8 ((0 : Nat) : Int)), .val (.int .u8 ((0 : Nat) : Int))]) (.t 38)), none⟩] [0, 5])
 (.seq (.ops [mv_ 39 0,
  mv_ 40 5,
  po_ 41 (.slV 20 (.t 39) none (some (.t 40))),
  mv_ 4 41] [4])
 (.ret))
def Auj : AsX := .seq (.seq (.ops [mv_ 14 5,
  po_ 15 (.bin 3 .add (.t 14) (ci_ 1)),
  mv_ 6 15] [0, 1, 5, 6])
 Auh)
 Aul
def Aum : AsX := .seq (.seq (.ops [mv_ 11 5,
  po_ 12 (.bin 3 .eql (.t 11) (.c (.int .i64 (-1))))] [0, 1, 5, 12])
 (.cond (.t 12)
 (.seq (.ops [mv_ 13 0,
   mv_ 4 13] [4])
  (.ret))
 (.skip)))
 Auj
def Aun : AsX := .seq (.ops [mv_ 8 0,
  mv_ 9 1,
  so_ 10 (.call 58 [.t 8, .t 9]),
  mv_ 5 10] [0, 1, 5])
 Aum
def AuN : AsX := .seq (.ops [po_ 4 (.mov (.c (.slice none 0 0)))] [0, 1])
 Aun
def AuV : List VR := [.tmp 4]
theorem Awq : Tryd.f49.body.bind (trC Tryd.prog Tryd.f49.ntmps) = some (er AuN) := by kernel_rfl
theorem Awn : trR Tryd.prog Tryd.f49.results.toList = some AuV := by kernel_rfl
def AvA := AsU Aui.eq_1
def Avz := AsU Auk.eq_1
def Avw := AsU Auo.eq_1
def AvB := AsU Auh.eq_1
def Avv := AsU Aul.eq_1
def Avy := AsU Auj.eq_1
def Avu := AsU Aum.eq_1
def Avx := AsU Aun.eq_1
def Av0 := AsU AuN.eq_1
theorem Av7 {K : TV → Prop} {e : Env} {H : List Ob} : res AuV e H K = res [.tmp 4] e H K := AsT rfl
def As8 := (And.intro (And.intro (And.intro (And.intro @AvA @Avz) (And.intro @Avw @AvB)) (And.intro (And.intro @Avv @Avy) (And.intro @Avu @Avx))) (And.intro @Av0 @Av7))
def AuA := Awo 42 Tryd.func49 Awq Awn rfl

def Aut : AsX := .seq (.ops [po_ 4 (.mov (.c (.bool false)))] [0, 1])
 (.seq (.ops [mv_ 5 0,
  mv_ 6 1,
  so_ 7 (.call 58 [.t 5, .t 6]),
  po_ 8 (.bin 3 .geq (.t 7) (ci_ 0)),
  mv_ 4 8] [4])
 (.ret))
def Auw : List VR := [.tmp 4]
theorem Av9 : Tryd.f50.body.bind (trC Tryd.prog Tryd.f50.ntmps) = some (er Aut) := by kernel_rfl
theorem AvY : trR Tryd.prog Tryd.f50.results.toList = some Auw := by kernel_rfl
def AvD := AsU Aut.eq_1
theorem AvF {K : TV → Prop} {e : Env} {H : List Ob} : res Auw e H K = res [.tmp 4] e H K := AsT rfl
def AtO := (And.intro @AvD @AvF)
def AvO := Awo 9 Tryd.func50 Av9 AvY rfl

def Aux : AsX := .seq (.ops [po_ 9 (.bin 3 .lss (.t 8) (.t 7))] [0, 1, 7, 8, 9])
 (.seq (.cond (.t 9)
 (.skip)
 (.exit 0))
 (.seq (.block 1 (.seq (.ops [mv_ 10 8,
  mv_ 5 10] [0, 1, 5, 7, 8])
 (.seq (.ops [mv_ 11 1,
  mv_ 12 0,
  mv_ 13 5,
  po_ 14 (.idxA 20 (.t 12) (.t 13)),
  po_ 15 (.load true 20 (.t 14)),
  so_ 16 (.callv (.t 11) [.t 15])] [0, 1, 5, 7, 8, 16])
 (.cond (.t 16)
 (.seq (.ops [mv_ 17 5,
   mv_ 4 17] [4])
  (.ret))
 (.skip)))))
 (.ops [po_ 18 (.bin 3 .add (.t 8) (ci_ 1)),
  mv_ 8 18] [0, 1, 7, 8])))
def Aus : AsX := .block 0 (.loop [0, 1, 7, 8] Aux)
def Aur : AsX := .seq (.ops [po_ 4 (.mov (.c (.int .i64 (-1))))] [4])
 (.ret)
def Auu : AsX := .seq (.seq (.ops [mv_ 6 0,
  po_ 7 (.lenV (.t 6)),
  po_ 8 (.mov (ci_ 0))] [0, 1, 7, 8])
 Aus)
 Aur
def Au2 : AsX := .seq (.ops [po_ 4 (.mov (ci_ 0))] [0, 1])
 Auu
def Au3 : List VR := [.tmp 4]
theorem AwG : Tryd.f58.body.bind (trC Tryd.prog Tryd.f58.ntmps) = some (er Au2) := by kernel_rfl
theorem AwK : trR Tryd.prog Tryd.f58.results.toList = some Au3 := by kernel_rfl
def AvH := AsU Aux.eq_1
def AvE := AsU Aus.eq_1
def AvK := AsU Aur.eq_1
def AvC := AsU Auu.eq_1
def Awi := AsU Au2.eq_1
theorem Awj {K : TV → Prop} {e : Env} {H : List Ob} : res Au3 e H K = res [.tmp 4] e H K := AsT rfl
def As2 := (And.intro (And.intro (And.intro @AvH @AvE) (And.intro @AvK @AvC)) (And.intro @Awi @Awj))
def At1 := Awo 19 Tryd.func58 AwG AwK rfl

end Go.Proofs.YtingoaihnlhiaaaDoor


namespace Go.Proofs.YtingoaihnlhiaaaDoor
open Go.RowKit
variable [At3]
set_option linter.unusedSectionVars false
set_option linter.unusedVariables false
set_option linter.unusedSimpArgs false

/-- Is it the id of a node? -/
def AJG (l : List Nd) (x : List UInt8) : Bool := (Atf l).contains x
theorem Auz {l : List Nd} {x : List UInt8} : AJG l x = true ↔ x ∈ Atf l := by simp [AJG]
theorem Ats {α : Type} {H : List α} {i : Nat} {o : α} (h : H[i]? = some o) : i < H.length := (List.getElem?_eq_some_iff.1 h).1
theorem ABR {l : List Nd} (hn : (Atf l).Nodup) (x : List UInt8) : (Aw4 x (Atz l)).isSome = AJG l x := by
 by_cases hx : x ∈ Atf l
 ·obtain ⟨m, hm, rfl⟩ := List.mem_map.1 hx
  rw [AyA hn hm, (Auz).2 hx]; rfl
 ·rw [AHy hx hn]
  cases h : AJG l x with
  | false => rfl
  | true => exact absurd (Auz.1 h) hx

theorem ATE {l : List Nd} (hn : (Atf l).Nodup) {H : List Ob} {c gi mi : Nat} (hc : H[c]? = some (.obj 0 (.op gi 0 []))) (hg : H[gi]? = some (.obj 0 (.agg [.mp mi 0, .val (.map none)]))) (hm : H[mi]? = some (.mpo (.arr 20) (Atz l))) (x : List UInt8) {K : TV → List Ob → Prop}
  (hK : ∀ T, K (tb (!AJG l x)) (H ++ T)) : As7 Tryd.prog 51 [idT x, .op c 0 []] H K := by
 have h1 := Ats hc
 have h2 := Ats hg
 have h3 := Ats hm
 have h4 := ABR hn x
 refine AAF (by simp) ?_
 cases hl : Aw4 x (Atz l) with
 | none =>
  rw [hl] at h4
  simp -dsimp (disch := first | assumption | omega | (simp only [AsW]; done) | (simp only [AsW]; omega)) only [↓AsZ, AsV, AsY, As0, eq_self, forall_const, Nat.reduceLT, Nat.reduceEqDiff, Nat.reduceSub, Nat.reduceMul, Nat.reduceMod, Nat.reduceDiv, Nat.reducePow, UInt8.reduceToNat, Int.reduceEq, Int.reduceLT, Int.reduceLE, ↓reduceIte, Nat.reduceAdd, Int.reduceToNat, reduceCtorEq, Nat.reduceLeDiff, ↓Axa, hc, hg, hm, Ate, hl]
  rw [← h4] at hK
  simp only [List.append_assoc]
  exact hK _
 | some y =>
  rw [hl] at h4
  have hy : ∃ n : Nd, y = ndT n := by
   by_cases hx : x ∈ Atf l
   ·obtain ⟨m, hm, rfl⟩ := List.mem_map.1 hx
    rw [AyA hn hm] at hl; cases hl; exact ⟨m, rfl⟩
   ·rw [AHy hx hn] at hl; cases hl
  obtain ⟨n, rfl⟩ := hy
  simp -dsimp (disch := first | assumption | omega | (simp only [AsW]; done) | (simp only [AsW]; omega)) only [↓AsZ, AsV, AsY, As0, eq_self, forall_const, Nat.reduceLT, Nat.reduceEqDiff, Nat.reduceSub, Nat.reduceMul, Nat.reduceMod, Nat.reduceDiv, Nat.reducePow, UInt8.reduceToNat, Int.reduceEq, Int.reduceLT, Int.reduceLE, ↓reduceIte, Nat.reduceAdd, Int.reduceToNat, reduceCtorEq, Nat.reduceLeDiff, ↓Axa, hc, hg, hm, Ate, hl, AtN]
  rw [← h4] at hK
  simp only [List.append_assoc]
  exact hK _

theorem AIz {α : Type} {ids : List α} {p : α → Bool} {i : Nat} {x : α} (hg : ids[i]? = some x) (h : ∀ y ∈ ids.take i, p y = false) (hp : p x = true) : ids.findIdx p = i ∧ ids.any p = true := by
 obtain ⟨hi, rfl⟩ := List.getElem?_eq_some_iff.1 hg
 refine ⟨(List.findIdx_eq hi).2 ⟨hp, fun j hj => h _ ?_⟩, List.any_eq_true.2 ⟨_, List.getElem_mem hi, hp⟩⟩
 rw [List.mem_take_iff_getElem]
 exact ⟨j, by omega, rfl⟩
/-- slices.IndexFunc, slices.ContainsFunc: the function is asked of one behind the other; it leaves what was there as it was. -/
theorem ANA {ids : List (List UInt8)} (hlen : ids.length ≤ 100000) {p : List UInt8 → Bool} {H : List Ob} {g : FuncId} {a caps : List TV} (hgo : AC8 Tryd.prog g = true) (hp : ∀ x ∈ ids, ∀ T K, (∀ T', K (tb (p x)) (H ++ T ++ T')) → As7 Tryd.prog g (a ++ [idT x] ++ caps) (H ++ T) K) {K : TV → List Ob → Prop}
  (hK : ∀ T, K (i64 (if ids.any p then ((ids.findIdx p : Nat) : Int) else -1)) (H ++ T)) : As7 Tryd.prog 58 [.sl 20 (ids.map idT), .fn (.func g) a caps] H K := by
 refine At1 (by simp) ?_
 simp -dsimp (disch := first | assumption | omega) only [↓AsZ, AsV, AsY, As0, eq_self, forall_const, Nat.reduceLT, Nat.reduceEqDiff, Nat.reduceSub, Nat.reduceMul, Nat.reduceMod, Nat.reduceDiv, Nat.reducePow, UInt8.reduceToNat, Int.reduceEq, Int.reduceLT, Int.reduceLE, ↓reduceIte, Nat.reduceAdd, Int.reduceToNat, reduceCtorEq, Nat.reduceLeDiff, ↓As2]
 refine Aua (fun q e H' => ∃ (i : Nat) (T : List Ob), q = ids.length - i ∧ i ≤ ids.length ∧ (∀ x ∈ ids.take i, p x = false) ∧ e = [(0, .sl 20 (ids.map idT)), (1, .fn (.func g) a caps), (7, i64 (ids.length : Int)), (8, i64 (i : Int))] ∧ H' = H ++ T) ids.length ?_ ?_
 ·exact ⟨0, [], by simp, by simp, by simp, rfl, by simp⟩
 ·rintro q e H' ⟨i, T, rfl, hi, hno, rfl, rfl⟩
  by_cases h : i < ids.length
  ·have hg : ids[i]? = some ids[i] := List.getElem?_eq_getElem h
   have hsucc := List.take_succ_eq_append_getElem h
   have hpx := hp ids[i] (List.getElem_mem h) T
   generalize ids[i] = x at *
   simp -dsimp (disch := first | assumption | omega | (simp only [AsW]; done) | (simp only [AsW]; omega)) only [↓AsZ, AsV, AsY, As0, eq_self, forall_const, Nat.reduceLT, Nat.reduceEqDiff, Nat.reduceSub, Nat.reduceMul, Nat.reduceMod, Nat.reduceDiv, Nat.reducePow, UInt8.reduceToNat, Int.reduceEq, Int.reduceLT, Int.reduceLE, ↓reduceIte, Nat.reduceAdd, Int.reduceToNat, reduceCtorEq, Nat.reduceLeDiff, ↓As2, hg, hgo, Atr, Atx, Atg]
   refine Axo (hpx _ fun T' => ?_)
   by_cases hpt : p x = true
   ·rw [hpt]
    simp -dsimp (disch := first | assumption | omega | (simp only [AsW]; done) | (simp only [AsW]; omega)) only [↓AsZ, AsV, AsY, As0, eq_self, forall_const, Nat.reduceLT, Nat.reduceEqDiff, Nat.reduceSub, Nat.reduceMul, Nat.reduceMod, Nat.reduceDiv, Nat.reducePow, UInt8.reduceToNat, Int.reduceEq, Int.reduceLT, Int.reduceLE, ↓reduceIte, Nat.reduceAdd, Int.reduceToNat, reduceCtorEq, Nat.reduceLeDiff, ↓As2]
    obtain ⟨e1, e2⟩ := AIz hg hno hpt
    rw [if_pos e2, e1] at hK
    simp only [List.append_assoc]
    exact hK _
   ·have hpf : p x = false := by simpa using hpt
    rw [hpf]
    simp -dsimp (disch := first | assumption | omega | (simp only [AsW]; done) | (simp only [AsW]; omega)) only [↓AsZ, AsV, AsY, As0, eq_self, forall_const, Nat.reduceLT, Nat.reduceEqDiff, Nat.reduceSub, Nat.reduceMul, Nat.reduceMod, Nat.reduceDiv, Nat.reducePow, UInt8.reduceToNat, Int.reduceEq, Int.reduceLT, Int.reduceLE, ↓reduceIte, Nat.reduceAdd, Int.reduceToNat, reduceCtorEq, Nat.reduceLeDiff, ↓As2]
    refine Atk (ids.length - (i + 1)) (by omega) (by simp) ⟨i + 1, T ++ T', rfl, by omega, fun y hy => ?_, by simp [forget, get], by simp⟩
    rw [hsucc, List.mem_append, List.mem_singleton] at hy
    rcases hy with hy | rfl
    ·exact hno y hy
    ·exact hpf
  ·have hi2 : i = ids.length := by omega
   subst hi2
   rw [List.take_length] at hno
   simp -dsimp (disch := first | assumption | omega | (simp only [AsW]; done) | (simp only [AsW]; omega)) only [↓AsZ, AsV, AsY, As0, eq_self, forall_const, Nat.reduceLT, Nat.reduceEqDiff, Nat.reduceSub, Nat.reduceMul, Nat.reduceMod, Nat.reduceDiv, Nat.reducePow, UInt8.reduceToNat, Int.reduceEq, Int.reduceLT, Int.reduceLE, ↓reduceIte, Nat.reduceAdd, Int.reduceToNat, reduceCtorEq, Nat.reduceLeDiff, ↓As2]
   have hany : ¬ ids.any p = true := by
    rw [List.any_eq_true]
    rintro ⟨y, hy, h⟩
    rw [hno y hy] at h; cases h
   rw [if_neg hany] at hK
   exact hK _
theorem AI5 {ids : List (List UInt8)} (hlen : ids.length ≤ 100000) {p : List UInt8 → Bool} {H : List Ob} {g : FuncId} {a caps : List TV} (hnt : AyZ (a ++ caps)) (hgo : AC8 Tryd.prog g = true) (hp : ∀ x ∈ ids, ∀ T K, (∀ T', K (tb (p x)) (H ++ T ++ T')) → As7 Tryd.prog g (a ++ [idT x] ++ caps) (H ++ T) K) {K : TV → List Ob → Prop}
  (hK : ∀ T, K (tb (ids.any p)) (H ++ T)) : As7 Tryd.prog 50 [.sl 20 (ids.map idT), .fn (.func g) a caps] H K := by
 refine AvO (by simp) ?_
 simp -dsimp (disch := first | assumption | omega | (simp only [AsW]; done) | (simp only [AsW]; omega)) only [↓AsZ, AsV, AsY, As0, eq_self, forall_const, Nat.reduceLT, Nat.reduceEqDiff, Nat.reduceSub, Nat.reduceMul, Nat.reduceMod, Nat.reduceDiv, Nat.reducePow, UInt8.reduceToNat, Int.reduceEq, Int.reduceLT, Int.reduceLE, ↓reduceIte, Nat.reduceAdd, Int.reduceToNat, reduceCtorEq, Nat.reduceLeDiff, ↓AtO]
 refine Axo (ANA hlen hgo hp fun T => ?_)
 by_cases h : ids.any p = true
 ·rw [if_pos h]
  rw [h] at hK
  simp -dsimp (disch := first | assumption | omega | (simp only [AsW]; done) | (simp only [AsW]; omega)) only [↓AsZ, AsV, AsY, As0, eq_self, forall_const, Nat.reduceLT, Nat.reduceEqDiff, Nat.reduceSub, Nat.reduceMul, Nat.reduceMod, Nat.reduceDiv, Nat.reducePow, UInt8.reduceToNat, Int.reduceEq, Int.reduceLT, Int.reduceLE, ↓reduceIte, Nat.reduceAdd, Int.reduceToNat, reduceCtorEq, Nat.reduceLeDiff, ↓AtO]
  exact hK _
 ·rw [if_neg h]
  have h' : ids.any p = false := by simpa using h
  rw [h'] at hK
  simp -dsimp (disch := first | assumption | omega | (simp only [AsW]; done) | (simp only [AsW]; omega)) only [↓AsZ, AsV, AsY, As0, eq_self, forall_const, Nat.reduceLT, Nat.reduceEqDiff, Nat.reduceSub, Nat.reduceMul, Nat.reduceMod, Nat.reduceDiv, Nat.reducePow, UInt8.reduceToNat, Int.reduceEq, Int.reduceLT, Int.reduceLE, ↓reduceIte, Nat.reduceAdd, Int.reduceToNat, reduceCtorEq, Nat.reduceLeDiff, ↓AtO]
  exact hK _
theorem AWv {l : List Nd} (hn : (Atf l).Nodup) {ids : List (List UInt8)} (hlen : ids.length ≤ 100000) {H : List Ob} {gi mi : Nat} (hg : H[gi]? = some (.obj 0 (.agg [.mp mi 0, .val (.map none)]))) (hm : H[mi]? = some (.mpo (.arr 20) (Atz l))) {K : TV → List Ob → Prop}
  (hK : ∀ T, K (tb (ids.all (AJG l))) (H ++ T)) : As7 Tryd.prog 36 [.op gi 0 [], .sl 20 (ids.map idT)] H K := by
 have h2 := Ats hg
 have h3 := Ats hm
 refine ACi (by simp) ?_
 simp -dsimp (disch := first | assumption | omega | (simp only [AsW]; done) | (simp only [AsW]; omega)) only [↓AsZ, AsV, AsY, As0, eq_self, forall_const, Nat.reduceLT, Nat.reduceEqDiff, Nat.reduceSub, Nat.reduceMul, Nat.reduceMod, Nat.reduceDiv, Nat.reducePow, UInt8.reduceToNat, Int.reduceEq, Int.reduceLT, Int.reduceLE, ↓reduceIte, Nat.reduceAdd, Int.reduceToNat, reduceCtorEq, Nat.reduceLeDiff, ↓AxT]
 refine Axo (AI5 (p := fun x => !AJG l x) hlen (by simp [AyZ, At8]) (by kernel_rfl) (fun x hx T K hK => ?_) fun T => ?_)
 ·refine ATE (l := l) (gi := gi) (mi := mi) hn ?_ ?_ ?_ x fun T' => hK T'
  ·rw [AwS (by simp)]; exact AA2 rfl
  ·rw [List.append_assoc, AwS h2]; exact hg
  ·rw [List.append_assoc, AwS h3]; exact hm
 ·simp -dsimp (disch := first | assumption | omega | (simp only [AsW]; done) | (simp only [AsW]; omega)) only [↓AsZ, AsV, AsY, As0, eq_self, forall_const, Nat.reduceLT, Nat.reduceEqDiff, Nat.reduceSub, Nat.reduceMul, Nat.reduceMod, Nat.reduceDiv, Nat.reducePow, UInt8.reduceToNat, Int.reduceEq, Int.reduceLT, Int.reduceLE, ↓reduceIte, Nat.reduceAdd, Int.reduceToNat, reduceCtorEq, Nat.reduceLeDiff, ↓AxT]
  have e : (!ids.any fun x => !AJG l x) = ids.all (AJG l) := by rw [List.not_any_eq_all_not]; simp
  rw [e]
  simp only [List.append_assoc]
  exact hK _
/-- A graph in which ids are known. -/
def AAE (l : List Nd) (ids : List (List UInt8)) : Prop := GOk l ∧ ids.all (AJG l) = true
theorem ofV (l : List Nd) (hl : l.length ≤ 1000) (hp : ∀ n ∈ l, n.ps.length ≤ 1000) (ids : List (List UInt8)) (hlen : ids.length ≤ 100000) : As7 Tryd.prog 19 [.sl 22 (l.map ndT), .sl 20 (ids.map idT)] [] (fun x H' =>
  (AAE l ids → x = .tup [.op 1 0 [], .val .nilIface] ∧ ∃ T, H' = [.mpo (.arr 20) (Atz l), ADo] ++ T) ∧ (¬ AAE l ids → ∃ g, x = .tup [g, .ifc 36 (i64 ((80 : Nat) : Int))])) := by
 refine ALa (by simp) ?_
 simp -dsimp (disch := first | assumption | omega | (simp only [AsW]; done) | (simp only [AsW]; omega)) only [↓AsZ, AsV, AsY, As0, eq_self, forall_const, Nat.reduceLT, Nat.reduceEqDiff, Nat.reduceSub, Nat.reduceMul, Nat.reduceMod, Nat.reduceDiv, Nat.reducePow, UInt8.reduceToNat, Int.reduceEq, Int.reduceLT, Int.reduceLE, ↓reduceIte, Nat.reduceAdd, Int.reduceToNat, reduceCtorEq, Nat.reduceLeDiff, ↓Ay4]
 refine Axo ((A0k l hl hp).mono ?_)
 rintro x H' ⟨h1, h2⟩
 by_cases hok : GOk l
 ·obtain ⟨rfl, es, o, rfl⟩ := h1 hok
  simp -dsimp (disch := first | assumption | omega | (simp only [AsW]; done) | (simp only [AsW]; omega)) only [↓AsZ, AsV, AsY, As0, eq_self, forall_const, Nat.reduceLT, Nat.reduceEqDiff, Nat.reduceSub, Nat.reduceMul, Nat.reduceMod, Nat.reduceDiv, Nat.reducePow, UInt8.reduceToNat, Int.reduceEq, Int.reduceLT, Int.reduceLE, ↓reduceIte, Nat.reduceAdd, Int.reduceToNat, reduceCtorEq, Nat.reduceLeDiff, ↓Ay4]
  refine Axo (AWv hok.1.nodup hlen (H := [.mpo (.arr 20) (Atz l), ADo, .mpo (.arr 20) es, o]) (mi := 0) rfl rfl fun T => ?_)
  by_cases hk : ids.all (AJG l) = true
  ·rw [hk]
   simp -dsimp (disch := first | assumption | omega | (simp only [AsW]; done) | (simp only [AsW]; omega)) only [↓AsZ, AsV, AsY, As0, eq_self, forall_const, Nat.reduceLT, Nat.reduceEqDiff, Nat.reduceSub, Nat.reduceMul, Nat.reduceMod, Nat.reduceDiv, Nat.reducePow, UInt8.reduceToNat, Int.reduceEq, Int.reduceLT, Int.reduceLE, ↓reduceIte, Nat.reduceAdd, Int.reduceToNat, reduceCtorEq, Nat.reduceLeDiff, ↓Ay4]
   exact ⟨fun _ => ⟨_, rfl⟩, fun h => absurd ⟨hok, hk⟩ h⟩
  ·have hk' : ids.all (AJG l) = false := by simpa using hk
   rw [hk']
   simp -dsimp (disch := first | assumption | omega | (simp only [AsW]; done) | (simp only [AsW]; omega)) only [↓AsZ, AsV, AsY, As0, eq_self, forall_const, Nat.reduceLT, Nat.reduceEqDiff, Nat.reduceSub, Nat.reduceMul, Nat.reduceMod, Nat.reduceDiv, Nat.reducePow, UInt8.reduceToNat, Int.reduceEq, Int.reduceLT, Int.reduceLE, ↓reduceIte, Nat.reduceAdd, Int.reduceToNat, reduceCtorEq, Nat.reduceLeDiff, ↓Ay4]
   exact ⟨fun h => absurd h.2 hk, fun _ => ⟨_, rfl⟩⟩
 ·obtain rfl := h2 hok
  simp -dsimp (disch := first | assumption | omega | (simp only [AsW]; done) | (simp only [AsW]; omega)) only [↓AsZ, AsV, AsY, As0, eq_self, forall_const, Nat.reduceLT, Nat.reduceEqDiff, Nat.reduceSub, Nat.reduceMul, Nat.reduceMod, Nat.reduceDiv, Nat.reducePow, UInt8.reduceToNat, Int.reduceEq, Int.reduceLT, Int.reduceLE, ↓reduceIte, Nat.reduceAdd, Int.reduceToNat, reduceCtorEq, Nat.reduceLeDiff, ↓Ay4]
  exact ⟨fun h => absurd h.1 hok, fun _ => ⟨_, rfl⟩⟩
end Go.Proofs.YtingoaihnlhiaaaDoor


namespace Go.Proofs.YtingoaihnlhiaaaDoor
open Go.RowKit
variable [At3]
set_option linter.unusedSectionVars false
set_option linter.unusedVariables false
set_option linter.unusedSimpArgs false

theorem ATx {ids : List (List UInt8)} (hlen : ids.length ≤ 100000) {H : List Ob} {K : TV → List Ob → Prop} (h0 : ids = [] → K (.val (.slice none 0 0)) H) (h1 : K (.os 20 H.length 1 [] 0 ids.length ids.length) (H ++ [.obj 1 (.arr ids.length 20 (ids.map idT))])) :
  As7 Tryd.prog 38 [.sl 20 (ids.map idT)] H K := by
 refine Aud (by simp) ?_
 by_cases hn : ids = []
 ·subst hn
  simp -dsimp (disch := first | assumption | omega | (simp only [AsW]; done) | (simp only [AsW]; omega)) only [↓AsZ, AsV, AsY, As0, eq_self, forall_const, Nat.reduceLT, Nat.reduceEqDiff, Nat.reduceSub, Nat.reduceMul, Nat.reduceMod, Nat.reduceDiv, Nat.reducePow, UInt8.reduceToNat, Int.reduceEq, Int.reduceLT, Int.reduceLE, ↓reduceIte, Nat.reduceAdd, Int.reduceToNat, reduceCtorEq, Nat.reduceLeDiff, ↓Atb]
  refine AGY ?_ ?_
  ·simp -dsimp (disch := first | assumption | omega | (simp only [AsW]; done) | (simp only [AsW]; omega)) only [↓AsZ, AsV, AsY, As0, eq_self, forall_const, Nat.reduceLT, Nat.reduceEqDiff, Nat.reduceSub, Nat.reduceMul, Nat.reduceMod, Nat.reduceDiv, Nat.reducePow, UInt8.reduceToNat, Int.reduceEq, Int.reduceLT, Int.reduceLE, ↓reduceIte, Nat.reduceAdd, Int.reduceToNat, reduceCtorEq, Nat.reduceLeDiff, ↓Atb]
   exact h0 rfl
  ·simp -dsimp (disch := first | assumption | omega | (simp only [AsW]; done) | (simp only [AsW]; omega)) only [↓AsZ, AsV, AsY, As0, eq_self, forall_const, Nat.reduceLT, Nat.reduceEqDiff, Nat.reduceSub, Nat.reduceMul, Nat.reduceMod, Nat.reduceDiv, Nat.reducePow, UInt8.reduceToNat, Int.reduceEq, Int.reduceLT, Int.reduceLE, ↓reduceIte, Nat.reduceAdd, Int.reduceToNat, reduceCtorEq, Nat.reduceLeDiff, ↓Atb]
   simpa using h1
 ·have hn0 : ids.length ≠ 0 := fun e => hn (List.length_eq_zero_iff.1 e)
  simp -dsimp (disch := first | assumption | omega | (simp only [AsW]; done) | (simp only [AsW]; omega)) only [↓AsZ, AsV, AsY, As0, eq_self, forall_const, Nat.reduceLT, Nat.reduceEqDiff, Nat.reduceSub, Nat.reduceMul, Nat.reduceMod, Nat.reduceDiv, Nat.reducePow, UInt8.reduceToNat, Int.reduceEq, Int.reduceLT, Int.reduceLE, ↓reduceIte, Nat.reduceAdd, Int.reduceToNat, reduceCtorEq, Nat.reduceLeDiff, ↓Atb]
  simpa using h1
theorem AYP {es : List (List UInt8 × TV)} {H : List Ob} {m : Nat} (hm : H[m]? = some (.mpo (.arr 20) es)) (hes : ∀ k y, Aw4 k es = some y → y = .agg []) (x : List UInt8) {K : TV → List Ob → Prop} (hK : ∀ T, K (tb ((es.map (·.1)).contains x)) (H ++ T)) :
  As7 Tryd.prog 25 [.mp m 0, idT x] H K := by
 have h3 := Ats hm
 refine AGo (by simp) ?_
 have hk : ∀ {es : List (List UInt8 × TV)}, (Aw4 x es).isSome = (es.map (·.1)).contains x := by
  intro es
  induction es with
  | nil => rw [Aw4]; rfl
  | cons e es ih =>
   obtain ⟨k, y⟩ := e
   rw [Aw4]
   by_cases h : k = x
   ·subst h; simp
   ·rw [if_neg h, ih]
    have : (x == k) = false := by simpa using fun e => h e.symm
    simp [this, List.contains_cons]
 rw [← hk] at hK
 cases hl : Aw4 x es with
 | none =>
  rw [hl] at hK
  simp -dsimp (disch := first | assumption | omega | (simp only [AsW]; done) | (simp only [AsW]; omega)) only [↓AsZ, AsV, AsY, As0, eq_self, forall_const, Nat.reduceLT, Nat.reduceEqDiff, Nat.reduceSub, Nat.reduceMul, Nat.reduceMod, Nat.reduceDiv, Nat.reducePow, UInt8.reduceToNat, Int.reduceEq, Int.reduceLT, Int.reduceLE, ↓reduceIte, Nat.reduceAdd, Int.reduceToNat, reduceCtorEq, Nat.reduceLeDiff, ↓ABd, hm, Ate, hl]
  simp only [List.append_assoc]
  exact hK _
 | some y =>
  rw [hl] at hK
  have hy := hes x y hl
  subst hy
  simp -dsimp (disch := first | assumption | omega | (simp only [AsW]; done) | (simp only [AsW]; omega)) only [↓AsZ, AsV, AsY, As0, eq_self, forall_const, Nat.reduceLT, Nat.reduceEqDiff, Nat.reduceSub, Nat.reduceMul, Nat.reduceMod, Nat.reduceDiv, Nat.reducePow, UInt8.reduceToNat, Int.reduceEq, Int.reduceLT, Int.reduceLE, ↓reduceIte, Nat.reduceAdd, Int.reduceToNat, reduceCtorEq, Nat.reduceLeDiff, ↓ABd, hm, Ate, hl]
  simp only [List.append_assoc]
  exact hK _
/-- A set of ids. -/
def AGA (seen : List (List UInt8)) : List (List UInt8 × TV) := seen.map fun k => (k, .agg [])
theorem AAL {seen : List (List UInt8)} : (AGA seen).map (·.1) = seen := by simp [AGA, Function.comp_def]
theorem AGO {seen : List (List UInt8)} : ∀ k y, Aw4 k (AGA seen) = some y → y = .agg [] := by
 intro k y
 induction seen with
 | nil => intro h; simp [AGA, Aw4] at h
 | cons a seen ih =>
  intro h
  rw [AGA, List.map_cons, Aw4] at h
  split at h
  ·cases h; rfl
  ·exact ih h
theorem AQs {seen : List (List UInt8)} {x : List UInt8} (h : ¬ x ∈ seen) : AwI x (.agg []) (AGA seen) = AGA (seen ++ [x]) := by
 rw [AJr (by rw [AAL]; exact h)]; simp [AGA]
theorem AHf {l : List Nd} (hok : GOk l) (hl : l.length ≤ 1000) (hp : ∀ n ∈ l, n.ps.length ≤ 1000) {S : List (List UInt8)} (hlen : S.length ≤ 100000) (hS : ∀ x ∈ S, x ∈ Atf l) {H : List Ob} {gi mi : Nat} (hg : H[gi]? = some (.obj 0 (.agg [.mp mi 0, .val (.map none)]))) (hm : H[mi]? = some (.mpo (.arr 20) (Atz l))) {A : TV} (hA1 : At8 A = false)
  (hA : ∀ K : TV → List Ob → Prop, (S = [] → K (.val (.slice none 0 0)) (H ++ [.mpo (.arr 20) []])) → K (.os 20 (H ++ [Ob.mpo (.arr 20) []]).length 1 [] 0 S.length S.length) (H ++ [.mpo (.arr 20) []] ++ [.obj 1 (.arr S.length 20 (S.map idT))]) → As7 Tryd.prog 38 [A] (H ++ [.mpo (.arr 20) []]) K) {K : TV → List Ob → Prop}
  (hK : ∀ seen T, seen.Nodup → (∀ x, x ∈ seen ↔ Rc l S x) → K (.mp H.length 0) (H ++ .mpo (.arr 20) (AGA seen) :: T)) : As7 Tryd.prog 21 [.op gi 0 [], A] H K := by
 have h2 := Ats hg
 have h3 := Ats hm
 have loop : ∀ (e0 : Env) (H0 : List Ob) (v N cp : Nat) (cs : List TV), H0 = H ++ [.mpo (.arr 20) [], .obj v (.arr N 20 cs)] → forget [0, 5, 6] e0 = [(0, .op gi 0 []), (5, .mp H.length 0), (6, .os 20 (H.length + 1) v [] 0 S.length cp)] → cs.take S.length = S.map idT → S.length ≤ cs.length → S.length ≤ cp →
   vwp Tryd.prog (.loop [0, 5, 6] Avn) (Blk 0 (Thn Tryd.prog Avk (AIY Av6 K))) e0 H0 := by
  intro e0 H0 v0 N0 cp0 cs0 hH0 he0 hcs0 hlc0 hcp0
  have hsum : ∀ m : List Nd, (∀ n ∈ m, n.ps.length ≤ 1000) → (m.map fun n => n.ps.length + 1).sum ≤ 1001 * m.length := by
   intro m
   induction m with
   | nil => simp
   | cons a m ih =>
    intro h
    have h1 := h a (by simp)
    have h2 := ih fun n hn => h n (by simp [hn])
    rw [List.map_cons, List.sum_cons, List.length_cons]; omega
  refine Aua (fun q e H' => ∃ (seen todo : List (List UInt8)) (v N cp : Nat) (cs : List TV) (T : List Ob), q = AGk.left l seen todo ∧ q ≤ 2000000 ∧ AGk l S seen todo ∧ cs.take todo.length = todo.map idT ∧ todo.length ≤ cs.length ∧ todo.length ≤ cp ∧
   e = [(0, .op gi 0 []), (5, .mp H.length 0), (6, .os 20 (H.length + 1) v [] 0 todo.length cp)] ∧ H' = H ++ [.mpo (.arr 20) (AGA seen), .obj v (.arr N 20 cs)] ++ T) (AGk.left l [] S) ?_ ?_
  ·refine ⟨[], S, v0, N0, cp0, cs0, [], rfl, ?_, AGk.start, hcs0, hlc0, hcp0, he0, by rw [hH0]; simp [AGA]⟩
   have h1 := hsum l hp
   have h2 : (l.filter fun n => !([] : List (List UInt8)).contains n.id) = l := by simp
   unfold AGk.left
   rw [h2]; omega
  ·rintro q e H' ⟨seen, todo, v, N, cp, cs, T, rfl, hq, hs, hcs, hlc, hcp, rfl, rfl⟩
   rcases List.eq_nil_or_concat todo with rfl | ⟨t, x, rfl⟩
   ·simp -dsimp (disch := first | assumption | omega | (simp only [AsW]; done) | (simp only [AsW]; omega)) only [↓AsZ, AsV, AsY, As0, eq_self, forall_const, Nat.reduceLT, Nat.reduceEqDiff, Nat.reduceSub, Nat.reduceMul, Nat.reduceMod, Nat.reduceDiv, Nat.reducePow, UInt8.reduceToNat, Int.reduceEq, Int.reduceLT, Int.reduceLE, ↓reduceIte, Nat.reduceAdd, Int.reduceToNat, reduceCtorEq, Nat.reduceLeDiff, ↓AtT]
    rw [List.append_assoc]
    exact hK seen _ hs.nodup hs.done
   ·simp only [List.concat_eq_append, List.length_append, List.length_singleton, List.map_append, List.map_cons, List.map_nil] at *
    have hlast : cs[t.length]? = some (idT x) := by
     have h0 : (cs.take (t.length + 1))[t.length]? = some (idT x) := by
      rw [hcs, List.getElem?_append_right (by simp)]; simp
     rwa [List.getElem?_take, if_pos (by omega)] at h0
    have htk : cs.take t.length = t.map idT := by
     have h0 := congrArg (List.take t.length) hcs
     rw [List.take_take, Nat.min_eq_left (by omega)] at h0
     rw [h0, List.take_left' (by simp)]
    rw [Ate] at hlast
    have hqt : t.length + 1 ≤ 2000000 := by
     have := hq
     unfold AGk.left at this
     rw [List.length_append, List.length_singleton] at this
     omega
    have hx : x ∈ Atf l := Rc.there hok.1 hS (hs.htodo x (by simp))
    obtain ⟨n, hn, rfl⟩ := List.mem_map.1 hx
    have hlook : Aw4 n.id (Atz l) = some (ndT n) := AyA hok.1.nodup hn
    have hpn := hp n hn
    have hpo : pOf l n.id = n.ps := AIs hok.1.nodup hn
    simp -dsimp (disch := first | assumption | omega | (simp only [AsW]; done) | (simp only [AsW]; omega)) only [↓AsZ, AsV, AsY, As0, eq_self, forall_const, Nat.reduceLT, Nat.reduceEqDiff, Nat.reduceSub, Nat.reduceMul, Nat.reduceMod, Nat.reduceDiv, Nat.reducePow, UInt8.reduceToNat, Int.reduceEq, Int.reduceLT, Int.reduceLE, ↓reduceIte, Nat.reduceAdd, Int.reduceToNat, reduceCtorEq, Nat.reduceLeDiff, ↓AtT, hlast]
    rw [← Ate]
    refine Axo (AYP (es := AGA seen) (by rw [List.append_assoc, List.append_assoc, AA2 rfl]; rfl) AGO n.id fun T' => ?_)
    rw [AAL]
    by_cases hsn : n.id ∈ seen
    ·have hc : seen.contains n.id = true := by simpa using hsn
     rw [hc]
     simp -dsimp (disch := first | assumption | omega | (simp only [AsW]; done) | (simp only [AsW]; omega)) only [↓AsZ, AsV, AsY, As0, eq_self, forall_const, Nat.reduceLT, Nat.reduceEqDiff, Nat.reduceSub, Nat.reduceMul, Nat.reduceMod, Nat.reduceDiv, Nat.reducePow, UInt8.reduceToNat, Int.reduceEq, Int.reduceLT, Int.reduceLE, ↓reduceIte, Nat.reduceAdd, Int.reduceToNat, reduceCtorEq, Nat.reduceLeDiff, ↓AtT]
     have hlt : AGk.left l seen t < AGk.left l seen (t ++ [n.id]) := by unfold AGk.left; rw [List.length_append, List.length_singleton]; omega
     exact Atk (AGk.left l seen t) hlt (by rw [hH0]; simp) ⟨seen, t, v, N, cp, cs, T ++ [Ob.obj 0 (idT n.id)] ++ T', rfl, by omega, hs.skip hsn, htk, by omega, by omega, by simp [forget, get], by simp⟩
    ·have hc : seen.contains n.id = false := by simpa using hsn
     rw [hc]
     simp -dsimp (disch := first | assumption | omega | (simp only [AsW]; done) | (simp only [AsW]; omega)) only [↓AsZ, AsV, AsY, As0, eq_self, forall_const, Nat.reduceLT, Nat.reduceEqDiff, Nat.reduceSub, Nat.reduceMul, Nat.reduceMod, Nat.reduceDiv, Nat.reducePow, UInt8.reduceToNat, Int.reduceEq, Int.reduceLT, Int.reduceLE, ↓reduceIte, Nat.reduceAdd, Int.reduceToNat, reduceCtorEq, Nat.reduceLeDiff, ↓AtT, hlook, Ate, AtN, hg, hm, AQs hsn]
     have hlt := AGk.le hok.1.nodup (todo := t) hn hsn
     have htake := hs.take hsn
     rw [hpo] at htake
     rw [htk, ← List.map_append]
     exact Atk _ hlt (by rw [hH0]; simp) ⟨seen ++ [n.id], t ++ n.ps, v + 1, t.length + n.ps.length, t.length + n.ps.length, (t ++ n.ps).map idT, T ++ [Ob.obj 0 (.arr 20 1 (n.id.map by8))] ++ T', rfl, by omega, htake, by rw [List.take_of_length_le (by simp)], by simp, by simp, by simp [forget, get], by simp⟩
 refine AB9 (by simp) ?_
 simp -dsimp (disch := first | assumption | omega | (simp only [AsW]; done) | (simp only [AsW]; omega)) only [↓AsZ, AsV, AsY, As0, eq_self, forall_const, Nat.reduceLT, Nat.reduceEqDiff, Nat.reduceSub, Nat.reduceMul, Nat.reduceMod, Nat.reduceDiv, Nat.reducePow, UInt8.reduceToNat, Int.reduceEq, Int.reduceLT, Int.reduceLE, ↓reduceIte, Nat.reduceAdd, Int.reduceToNat, reduceCtorEq, Nat.reduceLeDiff, ↓AtT, hA1]
 refine Axo (hA _ (fun hS0 => ?_) ?_)
 ·subst hS0
  simp -dsimp (disch := first | assumption | omega | (simp only [AsW]; done) | (simp only [AsW]; omega)) only [↓AsZ, AsV, AsY, As0, eq_self, forall_const, Nat.reduceLT, Nat.reduceEqDiff, Nat.reduceSub, Nat.reduceMul, Nat.reduceMod, Nat.reduceDiv, Nat.reducePow, UInt8.reduceToNat, Int.reduceEq, Int.reduceLT, Int.reduceLE, ↓reduceIte, Nat.reduceAdd, Int.reduceToNat, reduceCtorEq, Nat.reduceLeDiff, ↓AtT]
  exact loop _ _ 0 0 0 [] (by simp) (by simp [forget, get]) rfl (by simp) (by simp)
 ·simp -dsimp (disch := first | assumption | omega | (simp only [AsW]; done) | (simp only [AsW]; omega)) only [↓AsZ, AsV, AsY, As0, eq_self, forall_const, Nat.reduceLT, Nat.reduceEqDiff, Nat.reduceSub, Nat.reduceMul, Nat.reduceMod, Nat.reduceDiv, Nat.reducePow, UInt8.reduceToNat, Int.reduceEq, Int.reduceLT, Int.reduceLE, ↓reduceIte, Nat.reduceAdd, Int.reduceToNat, reduceCtorEq, Nat.reduceLeDiff, ↓AtT]
  exact loop _ _ 1 S.length S.length (S.map idT) (by simp) (by simp [forget, get]) (by rw [List.take_of_length_le (by simp)]) (by simp) (by simp)
theorem AWO {ids : List (List UInt8)} (hlen : ids.length ≤ 100000) (h0 : ids.length ≠ 0) {H : List Ob} {id ver N cp : Nat} (hid : H[id]? = some (.obj ver (.arr N 20 (ids.map idT)))) {K : TV → List Ob → Prop} (h1 : K (.os 20 H.length 1 [] 0 ids.length ids.length) (H ++ [.obj 1 (.arr ids.length 20 (ids.map idT))])) :
  As7 Tryd.prog 38 [.os 20 id ver [] 0 ids.length cp] H K := by
 have h3 := Ats hid
 refine Aud (by simp) ?_
 have htk : (ids.map idT).take ids.length = ids.map idT := List.take_of_length_le (by simp)
 simp -dsimp (disch := first | assumption | omega | (simp only [AsW]; done) | (simp only [AsW]; omega)) only [↓AsZ, AsV, AsY, As0, eq_self, forall_const, Nat.reduceLT, Nat.reduceEqDiff, Nat.reduceSub, Nat.reduceMul, Nat.reduceMod, Nat.reduceDiv, Nat.reducePow, UInt8.reduceToNat, Int.reduceEq, Int.reduceLT, Int.reduceLE, ↓reduceIte, Nat.reduceAdd, Int.reduceToNat, reduceCtorEq, Nat.reduceLeDiff, ↓Atb, hid]
 simpa [htk] using h1
end Go.Proofs.YtingoaihnlhiaaaDoor


namespace Go.Proofs.YtingoaihnlhiaaaDoor
open Go.RowKit
variable [At3]
set_option linter.unusedSectionVars false
set_option linter.unusedVariables false
set_option linter.unusedSimpArgs false

theorem AU6 {n : Nd} {k : Nat} : shT k (ndT n) = ndT n := by rw [AtN]; simp [shT, shL]
theorem AMi {k : Nat} {q : List UInt8} {x : TV} (hx : shT k x = x) : ∀ {es : List (List UInt8 × TV)}, AMa k es = es → AMa k (AwI q x es) = AwI q x es
 | [], _ => by simp [AwI, AMa, hx]
 | e :: es, h => by
  rw [AMa] at h
  have h1 := (List.cons.inj h).1
  have h2 := (List.cons.inj h).2
  obtain ⟨a, y⟩ := e
  rw [AwI]
  split
  ·rw [AMa, hx, h2]
  ·rw [AMa, h1, AMi hx h2]
theorem AMC {k : Nat} : ∀ (l : List Nd), AMa k (Atz l) = Atz l := by
 refine AGQ ?_ fun l n ih => ?_
 ·rw [Atz, List.foldl_nil, AMa]
 ·rw [AxO]; exact AMi AU6 ih
/-- of, among objects. -/
theorem ofH (l : List Nd) (hl : l.length ≤ 1000) (hp : ∀ n ∈ l, n.ps.length ≤ 1000) (ids : List (List UInt8)) (hlen : ids.length ≤ 100000) {H : List Ob} {K : TV → List Ob → Prop}
  (h1 : AAE l ids → ∀ T, K (.tup [.op (1 + H.length) 0 [], .val .nilIface]) (H ++ [.mpo (.arr 20) (Atz l), .obj 0 (.agg [.mp (0 + H.length) 0, .val (.map none)])] ++ T))
  (h2 : ¬ AAE l ids → ∀ g H', K (.tup [g, .ifc 36 (i64 ((80 : Nat) : Int))]) H') : As7 Tryd.prog 19 [.sl 22 (l.map ndT), .sl 20 (ids.map idT)] H K := by
 refine (ofV l hl hp ids hlen).behind rfl ?_
 rintro x H' ⟨k1, k2⟩
 by_cases h : AAE l ids
 ·obtain ⟨rfl, T, rfl⟩ := k1 h
  have := h1 h (T.map (shO H.length))
  simpa [shT, shL, shO, AMC] using this
 ·obtain ⟨g, rfl⟩ := k2 h
  have := h2 h (shT H.length g) (H ++ H'.map (shO H.length))
  simpa [shT, shL] using this
noncomputable def dec (p : Prop) : Bool := @decide p (Classical.propDecidable p)
theorem ANj {p : Prop} (h : p) : dec p = true := by unfold dec; simpa using h
theorem ANt {p : Prop} (h : ¬ p) : dec p = false := by unfold dec; simpa using h
theorem ASS (l : List Nd) (hl : l.length ≤ 1000) (hp : ∀ n ∈ l, n.ps.length ≤ 1000) (a b : List UInt8) : Avl Tryd.prog 13 [.sl 22 (l.map ndT), idT a, idT b] (fun r =>
  (AAE l [a, b] → r = .tup [tb (dec (Rc l [a] b)), .val .nilIface]) ∧ (¬ AAE l [a, b] → r = .tup [tb false, .ifc 36 (i64 ((80 : Nat) : Int))])) := by
 refine As7.toPureV (AGs (by simp) ?_)
 simp -dsimp (disch := first | assumption | omega | (simp only [AsW]; done) | (simp only [AsW]; omega)) only [↓AsZ, AsV, AsY, As0, eq_self, forall_const, Nat.reduceLT, Nat.reduceEqDiff, Nat.reduceSub, Nat.reduceMul, Nat.reduceMod, Nat.reduceDiv, Nat.reducePow, UInt8.reduceToNat, Int.reduceEq, Int.reduceLT, Int.reduceLE, ↓reduceIte, Nat.reduceAdd, Int.reduceToNat, reduceCtorEq, Nat.reduceLeDiff, ↓Au7, Ate]
 refine AHc (by rfl) (by rfl) (by simp) ?_
 simp -dsimp (disch := first | assumption | omega | (simp only [AsW]; done) | (simp only [AsW]; omega)) only [↓AsZ, AsV, AsY, As0, eq_self, forall_const, Nat.reduceLT, Nat.reduceEqDiff, Nat.reduceSub, Nat.reduceMul, Nat.reduceMod, Nat.reduceDiv, Nat.reducePow, UInt8.reduceToNat, Int.reduceEq, Int.reduceLT, Int.reduceLE, ↓reduceIte, Nat.reduceAdd, Int.reduceToNat, reduceCtorEq, Nat.reduceLeDiff, ↓Au7, AKr]
 refine Axo (show As7 _ _ [.sl 22 (l.map ndT), .sl 20 ([a, b].map idT)] _ _ from ofH l hl hp [a, b] (by simp) (fun hok T => ?_) (fun hno g H' => ?_))
 ·simp -dsimp (disch := first | assumption | omega | (simp only [AsW]; done) | (simp only [AsW]; omega)) only [↓AsZ, AsV, AsY, As0, eq_self, forall_const, Nat.reduceLT, Nat.reduceEqDiff, Nat.reduceSub, Nat.reduceMul, Nat.reduceMod, Nat.reduceDiv, Nat.reducePow, UInt8.reduceToNat, Int.reduceEq, Int.reduceLT, Int.reduceLE, ↓reduceIte, Nat.reduceAdd, Int.reduceToNat, reduceCtorEq, Nat.reduceLeDiff, ↓Au7]
  have hin : ∀ x ∈ [a], x ∈ Atf l := fun x hx => by
   rw [List.mem_singleton] at hx; subst hx
   have := List.all_eq_true.1 hok.2 x (by simp)
   exact Auz.1 this
  refine As7.callsP (AHf hok.1 hl hp (S := [a]) (by simp) hin (gi := 4) (mi := 3) rfl rfl rfl (fun K _ h1 => AWO (ids := [a]) (ver := 0) (N := 1) (by simp) (by simp) (by simp [Ate]) h1) (fun seen T' hnd hmem => ⟨?_, ?_⟩))
  ·simp -dsimp (disch := first | assumption | omega | (simp only [AsW]; done) | (simp only [AsW]; omega)) only [↓AsZ, AsV, AsY, As0, eq_self, forall_const, Nat.reduceLT, Nat.reduceEqDiff, Nat.reduceSub, Nat.reduceMul, Nat.reduceMod, Nat.reduceDiv, Nat.reducePow, UInt8.reduceToNat, Int.reduceEq, Int.reduceLT, Int.reduceLE, ↓reduceIte, Nat.reduceAdd, Int.reduceToNat, reduceCtorEq, Nat.reduceLeDiff, ↓Au7]
   refine As7.callsP (AYP (es := AGA seen) (by simp) AGO b fun T2 => ⟨?_, ?_⟩)
   ·have hc : (seen.contains b) = dec (Rc l [a] b) := by
     by_cases h : Rc l [a] b
     ·rw [ANj h]; simpa using (hmem b).2 h
     ·rw [ANt h]; simpa using fun h2 => h ((hmem b).1 h2)
    rw [AAL, hc]
    simp -dsimp (disch := first | assumption | omega | (simp only [AsW]; done) | (simp only [AsW]; omega)) only [↓AsZ, AsV, AsY, As0, eq_self, forall_const, Nat.reduceLT, Nat.reduceEqDiff, Nat.reduceSub, Nat.reduceMul, Nat.reduceMod, Nat.reduceDiv, Nat.reducePow, UInt8.reduceToNat, Int.reduceEq, Int.reduceLT, Int.reduceLE, ↓reduceIte, Nat.reduceAdd, Int.reduceToNat, reduceCtorEq, Nat.reduceLeDiff, ↓Au7]
    exact ⟨fun _ => trivial, fun h => absurd hok h⟩
   ·change ADZ [4, 5] _ _ _
    exact ABD rfl rfl (ABD rfl rfl AGR)
  ·change ADZ [4, 5] _ _ _
   exact ABD rfl rfl (ABD rfl rfl AGR)
 ·simp -dsimp (disch := first | assumption | omega | (simp only [AsW]; done) | (simp only [AsW]; omega)) only [↓AsZ, AsV, AsY, As0, eq_self, forall_const, Nat.reduceLT, Nat.reduceEqDiff, Nat.reduceSub, Nat.reduceMul, Nat.reduceMod, Nat.reduceDiv, Nat.reducePow, UInt8.reduceToNat, Int.reduceEq, Int.reduceLT, Int.reduceLE, ↓reduceIte, Nat.reduceAdd, Int.reduceToNat, reduceCtorEq, Nat.reduceLeDiff, ↓Au7]
  exact ⟨fun h => absurd h hno, fun _ => trivial⟩
end Go.Proofs.YtingoaihnlhiaaaDoor


namespace Go.Proofs.YtingoaihnlhiaaaDoor
open Go.RowKit
variable [At3]
set_option linter.unusedSectionVars false
set_option linter.unusedVariables false
set_option linter.unusedSimpArgs false

theorem AHw {l : List Nd} {x : List UInt8} (h : ¬ x ∈ Atf l) : fnd l x = -1 := by
 unfold fnd
 rw [if_neg]
 rintro ⟨n, hn, e⟩; exact h (e ▸ Ay6 hn)
theorem AJV (l : List Nd) (hl : l.length ≤ 1000) (hp : ∀ n ∈ l, n.ps.length ≤ 1000) (a b : List UInt8) : Avl Tryd.prog 14 [.sl 22 (l.map ndT), idT a, idT b] (fun r =>
  (AAE l [a, b] → r = .tup [tb (dec (Rc l [a] b)), i64 ((0 : Nat) : Int)]) ∧ (¬ AAE l [a, b] → r = .tup [tb false, i64 ((80 : Nat) : Int)])) := by
 refine As7.toPureV (AHi (by simp) ?_)
 simp -dsimp (disch := first | assumption | omega | (simp only [AsW]; done) | (simp only [AsW]; omega)) only [↓AsZ, AsV, AsY, As0, eq_self, forall_const, Nat.reduceLT, Nat.reduceEqDiff, Nat.reduceSub, Nat.reduceMul, Nat.reduceMod, Nat.reduceDiv, Nat.reducePow, UInt8.reduceToNat, Int.reduceEq, Int.reduceLT, Int.reduceLE, ↓reduceIte, Nat.reduceAdd, Int.reduceToNat, reduceCtorEq, Nat.reduceLeDiff, ↓AtX, Ate]
 refine (AOc l hl hp).calls rfl fun r hr => ?_
 subst hr
 by_cases hok : GOk l
 ·rw [AJA hok]
  simp -dsimp (disch := first | assumption | omega | (simp only [AsW]; done) | (simp only [AsW]; omega)) only [↓AsZ, AsV, AsY, As0, eq_self, forall_const, Nat.reduceLT, Nat.reduceEqDiff, Nat.reduceSub, Nat.reduceMul, Nat.reduceMod, Nat.reduceDiv, Nat.reducePow, UInt8.reduceToNat, Int.reduceEq, Int.reduceLT, Int.reduceLE, ↓reduceIte, Nat.reduceAdd, Int.reduceToNat, reduceCtorEq, Nat.reduceLeDiff, ↓AtX, Ate]
  refine (AHh l a (by omega)).calls rfl fun r hr => ?_
  subst hr
  by_cases ha : a ∈ Atf l
  case neg =>
   have hno : ¬ AAE l [a, b] := fun h => ha (Auz.1 (List.all_eq_true.1 h.2 a (by simp)))
   rw [AHw ha]
   simp -dsimp (disch := first | assumption | omega | (simp only [AsW]; done) | (simp only [AsW]; omega)) only [↓AsZ, AsV, AsY, As0, eq_self, forall_const, Nat.reduceLT, Nat.reduceEqDiff, Nat.reduceSub, Nat.reduceMul, Nat.reduceMod, Nat.reduceDiv, Nat.reducePow, UInt8.reduceToNat, Int.reduceEq, Int.reduceLT, Int.reduceLE, ↓reduceIte, Nat.reduceAdd, Int.reduceToNat, reduceCtorEq, Nat.reduceLeDiff, ↓AtX, Ate]
   exact ⟨fun h => absurd h hno, fun _ => trivial⟩
  obtain ⟨i, hi, hfi, hid⟩ := AAY ha
  rw [hfi]
  simp -dsimp (disch := first | assumption | omega | (simp only [AsW]; done) | (simp only [AsW]; omega)) only [↓AsZ, AsV, AsY, As0, eq_self, forall_const, Nat.reduceLT, Nat.reduceEqDiff, Nat.reduceSub, Nat.reduceMul, Nat.reduceMod, Nat.reduceDiv, Nat.reducePow, UInt8.reduceToNat, Int.reduceEq, Int.reduceLT, Int.reduceLE, ↓reduceIte, Nat.reduceAdd, Int.reduceToNat, reduceCtorEq, Nat.reduceLeDiff, ↓AtX, Ate]
  refine (AHh l b (by omega)).calls rfl fun r hr => ?_
  subst hr
  by_cases hb : b ∈ Atf l
  case neg =>
   have hno : ¬ AAE l [a, b] := fun h => hb (Auz.1 (List.all_eq_true.1 h.2 b (by simp)))
   rw [AHw hb]
   simp -dsimp (disch := first | assumption | omega | (simp only [AsW]; done) | (simp only [AsW]; omega)) only [↓AsZ, AsV, AsY, As0, eq_self, forall_const, Nat.reduceLT, Nat.reduceEqDiff, Nat.reduceSub, Nat.reduceMul, Nat.reduceMod, Nat.reduceDiv, Nat.reducePow, UInt8.reduceToNat, Int.reduceEq, Int.reduceLT, Int.reduceLE, ↓reduceIte, Nat.reduceAdd, Int.reduceToNat, reduceCtorEq, Nat.reduceLeDiff, ↓AtX, Ate]
   exact ⟨fun h => absurd h hno, fun _ => trivial⟩
  obtain ⟨j, hj, hfj, hjd⟩ := AAY hb
  rw [hfj]
  have hyes : AAE l [a, b] := ⟨hok, List.all_eq_true.2 fun x hx => by
   rcases List.mem_cons.1 hx with rfl | hx
   ·exact Auz.2 ha
   ·rw [List.mem_singleton] at hx; subst hx; exact Auz.2 hb⟩
  simp -dsimp (disch := first | assumption | omega | (simp only [AsW]; done) | (simp only [AsW]; omega)) only [↓AsZ, AsV, AsY, As0, eq_self, forall_const, Nat.reduceLT, Nat.reduceEqDiff, Nat.reduceSub, Nat.reduceMul, Nat.reduceMod, Nat.reduceDiv, Nat.reducePow, UInt8.reduceToNat, Int.reduceEq, Int.reduceLT, Int.reduceLE, ↓reduceIte, Nat.reduceAdd, Int.reduceToNat, reduceCtorEq, Nat.reduceLeDiff, ↓AtX, Ate]
  refine AHc (by rfl) (by rfl) (by simp) ?_
  simp -dsimp (disch := first | assumption | omega | (simp only [AsW]; done) | (simp only [AsW]; omega)) only [↓AsZ, AsV, AsY, As0, eq_self, forall_const, Nat.reduceLT, Nat.reduceEqDiff, Nat.reduceSub, Nat.reduceMul, Nat.reduceMod, Nat.reduceDiv, Nat.reducePow, UInt8.reduceToNat, Int.reduceEq, Int.reduceLT, Int.reduceLE, ↓reduceIte, Nat.reduceAdd, Int.reduceToNat, reduceCtorEq, Nat.reduceLeDiff, ↓AtX, AKr]
  refine (show Avl _ _ [.sl 22 (l.map ndT), .sl 20 ([a].map idT)] _ from AKU l [a] hok.1 hl (fun x hx => by rw [List.mem_singleton] at hx; subst hx; exact ha) (fun n hn => Nat.le_trans (hp n hn) (by omega)) (by simp)).calls rfl fun r hr => ?_
  subst hr
  simp -dsimp (disch := first | assumption | omega | (simp only [AsW]; done) | (simp only [AsW]; omega)) only [↓AsZ, AsV, AsY, As0, eq_self, forall_const, Nat.reduceLT, Nat.reduceEqDiff, Nat.reduceSub, Nat.reduceMul, Nat.reduceMod, Nat.reduceDiv, Nat.reducePow, UInt8.reduceToNat, Int.reduceEq, Int.reduceLT, Int.reduceLE, ↓reduceIte, Nat.reduceAdd, Int.reduceToNat, reduceCtorEq, Nat.reduceLeDiff, ↓AtX, Ate]
  refine (AHh l b (by omega)).calls rfl fun r hr => ?_
  subst hr
  rw [hfj]
  have hget : ((Au9 l [a]).map tb)[j]? = some (tb (dec (Rc l [a] b))) := by
   rw [List.getElem?_map]
   have h1 := AB4 (l := l) (S := [a]) hj
   rw [hjd] at h1
   have h2 : j < (Au9 l [a]).length := by rw [AxK]; exact hj
   rw [List.getElem?_eq_getElem h2] at h1 ⊢
   by_cases h : Rc l [a] b
   ·have h3 := h1.2 h
    rw [Option.map_some, ANj h]; rw [Option.some.inj h3]
   ·have h3 : (Au9 l [a])[j] ≠ true := fun e => h (h1.1 (by rw [e]))
    rw [Option.map_some, ANt h]
    have h4 : (Au9 l [a])[j] = false := by simpa using h3
    rw [h4]
  simp -dsimp (disch := first | assumption | omega | (simp only [AsW]; done) | (simp only [AsW]; omega)) only [↓AsZ, AsV, AsY, As0, eq_self, forall_const, Nat.reduceLT, Nat.reduceEqDiff, Nat.reduceSub, Nat.reduceMul, Nat.reduceMod, Nat.reduceDiv, Nat.reducePow, UInt8.reduceToNat, Int.reduceEq, Int.reduceLT, Int.reduceLE, ↓reduceIte, Nat.reduceAdd, Int.reduceToNat, reduceCtorEq, Nat.reduceLeDiff, ↓AtX, Ate, hget]
  exact ⟨fun _ => trivial, fun h => absurd hyes h⟩
 ·rw [AFG hok]
  have hno : ¬ AAE l [a, b] := fun h => hok h.1
  simp -dsimp (disch := first | assumption | omega | (simp only [AsW]; done) | (simp only [AsW]; omega)) only [↓AsZ, AsV, AsY, As0, eq_self, forall_const, Nat.reduceLT, Nat.reduceEqDiff, Nat.reduceSub, Nat.reduceMul, Nat.reduceMod, Nat.reduceDiv, Nat.reducePow, UInt8.reduceToNat, Int.reduceEq, Int.reduceLT, Int.reduceLE, ↓reduceIte, Nat.reduceAdd, Int.reduceToNat, reduceCtorEq, Nat.reduceLeDiff, ↓AtX, Ate]
  exact ⟨fun h => absurd h hno, fun _ => trivial⟩
theorem AV5 {l : List Nd} {x : List UInt8} (h : x ∈ Atf l) : ∃ i : Nat, fnd l x = i := by
 obtain ⟨i, _, e, _⟩ := AAY h; exact ⟨i, e⟩
theorem APL (l : List Nd) (hl : l.length ≤ 1000) (ids : List (List UInt8)) (hlen : ids.length ≤ 100000) : Avl Tryd.prog 28 [.sl 22 (l.map ndT), .sl 20 (ids.map idT)] (fun r => r = tb (ids.all (AJG l))) := by
 refine As7.toPureV (AJa (by simp) ?_)
 simp -dsimp (disch := first | assumption | omega | (simp only [AsW]; done) | (simp only [AsW]; omega)) only [↓AsZ, AsV, AsY, As0, eq_self, forall_const, Nat.reduceLT, Nat.reduceEqDiff, Nat.reduceSub, Nat.reduceMul, Nat.reduceMod, Nat.reduceDiv, Nat.reducePow, UInt8.reduceToNat, Int.reduceEq, Int.reduceLT, Int.reduceLE, ↓reduceIte, Nat.reduceAdd, Int.reduceToNat, reduceCtorEq, Nat.reduceLeDiff, ↓Aw7]
 refine Aua (fun q e H => ∃ i : Nat, q = ids.length - i ∧ i ≤ ids.length ∧ (∀ x ∈ ids.take i, AJG l x = true) ∧ e = [(0, .sl 22 (l.map ndT)), (1, .sl 20 (ids.map idT)), (5, i64 (i : Int))] ∧ H = []) ids.length ?_ ?_
 ·exact ⟨0, by simp, by simp, by simp, rfl, rfl⟩
 ·rintro q e H ⟨i, rfl, hi, hall, rfl, rfl⟩
  by_cases h : i < ids.length
  ·have hg : ids[i]? = some ids[i] := List.getElem?_eq_getElem h
   have hsucc := List.take_succ_eq_append_getElem h
   have hmem := List.getElem_mem h
   generalize ids[i] = x at *
   simp -dsimp (disch := first | assumption | omega | (simp only [AsW]; done) | (simp only [AsW]; omega)) only [↓AsZ, AsV, AsY, As0, eq_self, forall_const, Nat.reduceLT, Nat.reduceEqDiff, Nat.reduceSub, Nat.reduceMul, Nat.reduceMod, Nat.reduceDiv, Nat.reducePow, UInt8.reduceToNat, Int.reduceEq, Int.reduceLT, Int.reduceLE, ↓reduceIte, Nat.reduceAdd, Int.reduceToNat, reduceCtorEq, Nat.reduceLeDiff, ↓Aw7, hg, Atr, Atx, Atg]
   refine (AHh l x (by omega)).calls rfl fun r hr => ?_
   subst hr
   by_cases hx : x ∈ Atf l
   ·obtain ⟨j, hj⟩ := AV5 hx
    rw [hj]
    simp -dsimp (disch := first | assumption | omega | (simp only [AsW]; done) | (simp only [AsW]; omega)) only [↓AsZ, AsV, AsY, As0, eq_self, forall_const, Nat.reduceLT, Nat.reduceEqDiff, Nat.reduceSub, Nat.reduceMul, Nat.reduceMod, Nat.reduceDiv, Nat.reducePow, UInt8.reduceToNat, Int.reduceEq, Int.reduceLT, Int.reduceLE, ↓reduceIte, Nat.reduceAdd, Int.reduceToNat, reduceCtorEq, Nat.reduceLeDiff, ↓Aw7]
    refine Atk (ids.length - (i + 1)) (by omega) (by simp) ⟨i + 1, rfl, by omega, fun y hy => ?_, by simp [forget, get], rfl⟩
    rw [hsucc, List.mem_append, List.mem_singleton] at hy
    rcases hy with hy | rfl
    ·exact hall y hy
    ·exact Auz.2 hx
   ·rw [AHw hx]
    have hno : ids.all (AJG l) = false := by
     rw [List.all_eq_false]
     exact ⟨x, hmem, fun e => hx (Auz.1 e)⟩
    rw [hno]
    simp -dsimp (disch := first | assumption | omega | (simp only [AsW]; done) | (simp only [AsW]; omega)) only [↓AsZ, AsV, AsY, As0, eq_self, forall_const, Nat.reduceLT, Nat.reduceEqDiff, Nat.reduceSub, Nat.reduceMul, Nat.reduceMod, Nat.reduceDiv, Nat.reducePow, UInt8.reduceToNat, Int.reduceEq, Int.reduceLT, Int.reduceLE, ↓reduceIte, Nat.reduceAdd, Int.reduceToNat, reduceCtorEq, Nat.reduceLeDiff, ↓Aw7]
  ·have hi2 : i = ids.length := by omega
   subst hi2
   rw [List.take_length] at hall
   have hyes : ids.all (AJG l) = true := List.all_eq_true.2 hall
   rw [hyes]
   simp -dsimp (disch := first | assumption | omega | (simp only [AsW]; done) | (simp only [AsW]; omega)) only [↓AsZ, AsV, AsY, As0, eq_self, forall_const, Nat.reduceLT, Nat.reduceEqDiff, Nat.reduceSub, Nat.reduceMul, Nat.reduceMod, Nat.reduceDiv, Nat.reducePow, UInt8.reduceToNat, Int.reduceEq, Int.reduceLT, Int.reduceLE, ↓reduceIte, Nat.reduceAdd, Int.reduceToNat, reduceCtorEq, Nat.reduceLeDiff, ↓Aw7]
end Go.Proofs.YtingoaihnlhiaaaDoor


namespace Go.Proofs.YtingoaihnlhiaaaDoor
open Go.RowKit
variable [At3]
set_option linter.unusedSectionVars false
set_option linter.unusedVariables false
set_option linter.unusedSimpArgs false

theorem AXB {t : TypeId} {a b : List UInt8} : Axy t .lss (.string (str a)) (.string (str b)) = some (.bool (decide (ltB a b))) := by
 unfold Axy
 rw [binOp_string_lss]
 simp only [Lib.toList_data, str, AU4]
 rfl
theorem AME {N at' : Nat} {cs : List TV} {y : List UInt8} (hg : cs[at']? = some (.arr 20 1 (y.map by8))) (h20 : y.length = 20) : Avg [(at', at' * 20)] 1 0 20 (.arr N 20 cs) = some (y.map by8) := by
 unfold Avg
 rw [AMk]
 simp [hg, h20, AMj]
 exact List.take_of_length_le (by simp [h20])
theorem AID {l out : List (List UInt8)} {i at' k v cp : Nat} {x : List UInt8} {H : List Ob} {Q : VEx → Env → List Ob → Prop} (hg : l[i]? = some x) (hol : out.length ≤ 1000) (hil : i ≤ 1000) (hat : at' ≤ out.length) (hk : H[k]? = some (.obj v (.arr out.length 20 (out.map idT)))) (hcp : out.length ≤ cp)
  (hQ : ∀ k' v' H', H'[k']? = some (.obj v' (.arr (out.take at' ++ [x] ++ out.drop at').length 20 ((out.take at' ++ [x] ++ out.drop at').map idT))) → H.length ≤ H'.length → Q .nor [(0, .sl 20 (l.map idT)), (3, .os 20 k' v' [] 0 (out.take at' ++ [x] ++ out.drop at').length (out.take at' ++ [x] ++ out.drop at').length), (4, i64 (i : Int))] H') :
  vwp Tryd.prog Axq Q [(0, .sl 20 (l.map idT)), (3, .os 20 k v [] 0 out.length cp), (4, i64 (i : Int)), (5, i64 (at' : Int))] H := by
 have hkl := Ats hk
 have htl : ((out.map idT).take at').length = at' := by simp [hat]
 have hdl : ((out.map idT).drop at').length = out.length - at' := by simp
 have hxt : idT x = .arr 20 1 (x.map by8) := Ate
 have hq1 : List.take at' (List.take at' out) = List.take at' out := by rw [List.take_take, Nat.min_self]
 have hq2 : (List.take at' out).length = at' := by simp [hat]
 have hq3 : List.take (at' + 1) ((List.take at' out).map idT ++ [.arr 20 1 (x.map by8)]) = (List.take at' out).map idT ++ [.arr 20 1 (x.map by8)] := List.take_of_length_le (by simp [hat])
 have hq4 : (out.drop at').length = out.length - at' := by simp
 simp -dsimp (disch := first | assumption | omega | (simp only [AsW]; done) | (simp only [AsW]; omega)) only [↓AsZ, AsV, AsY, As0, eq_self, forall_const, Nat.reduceLT, Nat.reduceEqDiff, Nat.reduceSub, Nat.reduceMul, Nat.reduceMod, Nat.reduceDiv, Nat.reducePow, UInt8.reduceToNat, Int.reduceEq, Int.reduceLT, Int.reduceLE, ↓reduceIte, Nat.reduceAdd, Int.reduceToNat, reduceCtorEq, Nat.reduceLeDiff, ↓Ave, hg, hk, htl, hdl, hxt, AxZ, Axg, hq1, hq2, hq3, hq4]
 have hlen' : (out.take at' ++ [x] ++ out.drop at').length = at' + 1 + (out.length - at') := by
  rw [List.length_append, List.length_append, hq2, hq4, List.length_singleton]
 have := hQ H.length 3 (H ++ [Ob.obj 3 (.arr (at' + 1 + (out.length - at')) 20 (List.map idT (List.take at' out) ++ [TV.arr 20 1 (List.map by8 x)] ++ List.map idT (List.drop at' out)))] ++ [Ob.obj 0 (TV.arr 1 20 [TV.arr 20 1 (List.map by8 x)])])
  (by rw [List.append_assoc, AA2 rfl, hlen']; simp [hxt]) (by simp)
 rw [hlen'] at this
 exact this
theorem ARB (l : List (List UInt8)) (hlen : l.length ≤ 1000) (h20 : ∀ x ∈ l, x.length = 20) : Avl Tryd.prog 34 [.sl 20 (l.map idT)] (fun r => ∃ s, r = .sl 20 (s.map idT) ∧ SD s ∧ ∀ x, x ∈ s ↔ x ∈ l) := by
 refine As7.toPureV (AHN (by simp) ?_)
 simp -dsimp (disch := first | assumption | omega | (simp only [AsW]; done) | (simp only [AsW]; omega)) only [↓AsZ, AsV, AsY, As0, eq_self, forall_const, Nat.reduceLT, Nat.reduceEqDiff, Nat.reduceSub, Nat.reduceMul, Nat.reduceMod, Nat.reduceDiv, Nat.reducePow, UInt8.reduceToNat, Int.reduceEq, Int.reduceLT, Int.reduceLE, ↓reduceIte, Nat.reduceAdd, Int.reduceToNat, reduceCtorEq, Nat.reduceLeDiff, ↓Ave]
 refine Aua (fun q e H => ∃ (i k v cp : Nat) (out : List (List UInt8)), q = l.length - i ∧ i ≤ l.length ∧ SD out ∧ (∀ x, x ∈ out ↔ x ∈ l.take i) ∧ out.length ≤ i ∧ e = [(0, .sl 20 (l.map idT)), (3, .os 20 k v [] 0 out.length cp), (4, i64 (i : Int))] ∧ (H[k]? = some (.obj v (.arr out.length 20 (out.map idT))) ∧ out.length ≤ cp)) l.length ?_ ?_
 ·exact ⟨0, 0, 0, 0, [], by simp, by simp, List.Pairwise.nil, by simp, by simp, by simp [forget, get], rfl, by simp⟩
 ·rintro q e H ⟨i, k, v, cp, out, rfl, hi, hsd, hmem, hol, rfl, hk, hcp⟩
  have hkl := Ats hk
  by_cases h : i < l.length
  ·have hg : l[i]? = some l[i] := List.getElem?_eq_getElem h
   have hsucc := List.take_succ_eq_append_getElem h
   have hx20 := h20 l[i] (List.getElem_mem h)
   generalize l[i] = x at *
   simp -dsimp (disch := first | assumption | omega | (simp only [AsW]; done) | (simp only [AsW]; omega)) only [↓AsZ, AsV, AsY, As0, eq_self, forall_const, Nat.reduceLT, Nat.reduceEqDiff, Nat.reduceSub, Nat.reduceMul, Nat.reduceMod, Nat.reduceDiv, Nat.reducePow, UInt8.reduceToNat, Int.reduceEq, Int.reduceLT, Int.reduceLE, ↓reduceIte, Nat.reduceAdd, Int.reduceToNat, reduceCtorEq, Nat.reduceLeDiff, ↓Ave, hg]
   refine Aua (fun q e H' => ∃ at' : Nat, q = out.length - at' ∧ at' ≤ out.length ∧ (∀ (j : Nat) y, j < at' → out[j]? = some y → ltB y x) ∧ e = [(0, .sl 20 (l.map idT)), (3, .os 20 k v [] 0 out.length cp), (4, i64 (i : Int)), (5, i64 (at' : Int))] ∧ H' = H) out.length ?_ ?_
   ·exact ⟨0, by simp, by simp, by simp, by simp [forget, get], rfl⟩
   ·rintro q e H' ⟨at', rfl, hat, hlt, rfl, rfl⟩
    by_cases ha : at' < out.length
    ·have hga : out[at']? = some out[at'] := List.getElem?_eq_getElem ha
     generalize out[at'] = y at *
     have hgt : (out.map idT)[at']? = some (idT y) := by rw [List.getElem?_map, hga]; rfl
     rw [Ate] at hgt
     have h20y : y.length = 20 := h20 y (List.mem_of_mem_take ((hmem y).1 (List.mem_of_getElem? hga)))
     simp -dsimp (disch := first | assumption | omega | (simp only [AsW]; done) | (simp only [AsW]; omega)) only [↓AsZ, AsV, AsY, As0, eq_self, forall_const, Nat.reduceLT, Nat.reduceEqDiff, Nat.reduceSub, Nat.reduceMul, Nat.reduceMod, Nat.reduceDiv, Nat.reducePow, UInt8.reduceToNat, Int.reduceEq, Int.reduceLT, Int.reduceLE, ↓reduceIte, Nat.reduceAdd, Int.reduceToNat, reduceCtorEq, Nat.reduceLeDiff, ↓Ave, hg, hk, hgt, Ate, AME hgt (h20y), AXB]
     refine ANN (fun hl1 => ?_) (fun hl1 => ?_)
     ·simp -dsimp (disch := first | assumption | omega | (simp only [AsW]; done) | (simp only [AsW]; omega)) only [↓AsZ, AsV, AsY, As0, eq_self, forall_const, Nat.reduceLT, Nat.reduceEqDiff, Nat.reduceSub, Nat.reduceMul, Nat.reduceMod, Nat.reduceDiv, Nat.reducePow, UInt8.reduceToNat, Int.reduceEq, Int.reduceLT, Int.reduceLE, ↓reduceIte, Nat.reduceAdd, Int.reduceToNat, reduceCtorEq, Nat.reduceLeDiff, ↓Ave, hg, hk]
      refine Atk (out.length - (at' + 1)) (by omega) (Nat.le_refl _) ⟨at' + 1, rfl, by omega, fun j z hj hz => ?_, by simp [forget, get], rfl⟩
      rcases Nat.lt_succ_iff_lt_or_eq.1 hj with hj | rfl
      ·exact hlt j z hj hz
      ·rw [hga] at hz; cases hz; exact hl1
     ·by_cases hyx : y = x
      ·subst hyx
       simp -dsimp (disch := first | assumption | omega | (simp only [AsW]; done) | (simp only [AsW]; omega)) only [↓AsZ, AsV, AsY, As0, eq_self, forall_const, Nat.reduceLT, Nat.reduceEqDiff, Nat.reduceSub, Nat.reduceMul, Nat.reduceMod, Nat.reduceDiv, Nat.reducePow, UInt8.reduceToNat, Int.reduceEq, Int.reduceLT, Int.reduceLE, ↓reduceIte, Nat.reduceAdd, Int.reduceToNat, reduceCtorEq, Nat.reduceLeDiff, ↓Ave, hg, hk, hgt, Ate, beq_self_eq_true]
       exact Atk (l.length - (i + 1)) (by omega) (by omega) ⟨i + 1, k, v, cp, out, rfl, by omega, hsd, fun z => by
        rw [hsucc, List.mem_append, List.mem_singleton, ← hmem z]
        exact ⟨.inl, fun h => h.elim id fun e => by subst e; exact List.mem_of_getElem? hga⟩, by omega, by simp [forget, get], hk, hcp⟩
      ·have hbeq : (y == x) = false := by simpa using hyx
       simp -dsimp (disch := first | assumption | omega | (simp only [AsW]; done) | (simp only [AsW]; omega)) only [↓AsZ, AsV, AsY, As0, eq_self, forall_const, Nat.reduceLT, Nat.reduceEqDiff, Nat.reduceSub, Nat.reduceMul, Nat.reduceMod, Nat.reduceDiv, Nat.reducePow, UInt8.reduceToNat, Int.reduceEq, Int.reduceLT, Int.reduceLE, ↓reduceIte, Nat.reduceAdd, Int.reduceToNat, reduceCtorEq, Nat.reduceLeDiff, ↓Aww, hg, hk, hgt, Ate, hbeq]
       refine AID hg (by omega) (by omega) hat hk hcp fun k' v' H2 hk2 hl2 => ?_
       obtain ⟨i1, i2⟩ := hsd.insert hat hlt (fun z hz => by rw [hga] at hz; cases hz; exact ⟨hl1, hyx⟩)
       have hlen' : (out.take at' ++ [x] ++ out.drop at').length ≤ i + 1 := by simp; omega
       generalize out.take at' ++ [x] ++ out.drop at' = out' at *
       simp -dsimp (disch := first | assumption | omega | (simp only [AsW]; done) | (simp only [AsW]; omega)) only [↓AsZ, AsV, AsY, As0, eq_self, forall_const, Nat.reduceLT, Nat.reduceEqDiff, Nat.reduceSub, Nat.reduceMul, Nat.reduceMod, Nat.reduceDiv, Nat.reducePow, UInt8.reduceToNat, Int.reduceEq, Int.reduceLT, Int.reduceLE, ↓reduceIte, Nat.reduceAdd, Int.reduceToNat, reduceCtorEq, Nat.reduceLeDiff, ↓Awt]
       exact Atk (l.length - (i + 1)) (by omega) (by omega) ⟨i + 1, k', v', _, out', rfl, by omega, i1, fun z => by
        rw [hsucc, List.mem_append, List.mem_singleton, ← hmem z, i2 z]; exact or_comm, hlen', by simp [forget, get], hk2, Nat.le_refl _⟩
    ·have hat2 : at' = out.length := by omega
     subst hat2
     simp -dsimp (disch := first | assumption | omega | (simp only [AsW]; done) | (simp only [AsW]; omega)) only [↓AsZ, AsV, AsY, As0, eq_self, forall_const, Nat.reduceLT, Nat.reduceEqDiff, Nat.reduceSub, Nat.reduceMul, Nat.reduceMod, Nat.reduceDiv, Nat.reducePow, UInt8.reduceToNat, Int.reduceEq, Int.reduceLT, Int.reduceLE, ↓reduceIte, Nat.reduceAdd, Int.reduceToNat, reduceCtorEq, Nat.reduceLeDiff, ↓Ax5, ↓Aww, hg, hk]
     refine AID hg (by omega) (by omega) hat hk hcp fun k' v' H2 hk2 hl2 => ?_
     obtain ⟨i1, i2⟩ := hsd.insert hat hlt (fun z hz => by rw [List.getElem?_eq_none (Nat.le_refl _)] at hz; cases hz)
     have hlen' : (out.take out.length ++ [x] ++ out.drop out.length).length ≤ i + 1 := by simp; omega
     generalize out.take out.length ++ [x] ++ out.drop out.length = out' at *
     simp -dsimp (disch := first | assumption | omega | (simp only [AsW]; done) | (simp only [AsW]; omega)) only [↓AsZ, AsV, AsY, As0, eq_self, forall_const, Nat.reduceLT, Nat.reduceEqDiff, Nat.reduceSub, Nat.reduceMul, Nat.reduceMod, Nat.reduceDiv, Nat.reducePow, UInt8.reduceToNat, Int.reduceEq, Int.reduceLT, Int.reduceLE, ↓reduceIte, Nat.reduceAdd, Int.reduceToNat, reduceCtorEq, Nat.reduceLeDiff, ↓Awt]
     exact Atk (l.length - (i + 1)) (by omega) (by omega) ⟨i + 1, k', v', _, out', rfl, by omega, i1, fun z => by
      rw [hsucc, List.mem_append, List.mem_singleton, ← hmem z, i2 z]; exact or_comm, hlen', by simp [forget, get], hk2, Nat.le_refl _⟩
  ·have hi2 : i = l.length := by omega
   subst hi2
   rw [List.take_length] at hmem
   simp -dsimp (disch := first | assumption | omega | (simp only [AsW]; done) | (simp only [AsW]; omega)) only [↓AsZ, AsV, AsY, As0, eq_self, forall_const, Nat.reduceLT, Nat.reduceEqDiff, Nat.reduceSub, Nat.reduceMul, Nat.reduceMod, Nat.reduceDiv, Nat.reducePow, UInt8.reduceToNat, Int.reduceEq, Int.reduceLT, Int.reduceLE, ↓reduceIte, Nat.reduceAdd, Int.reduceToNat, reduceCtorEq, Nat.reduceLeDiff, ↓Ave, hk]
   exact ⟨out, rfl, hsd, hmem⟩
end Go.Proofs.YtingoaihnlhiaaaDoor


namespace Go.Proofs.YtingoaihnlhiaaaDoor
open Go.RowKit
variable [At3]
set_option linter.unusedSectionVars false
set_option linter.unusedVariables false
set_option linter.unusedSimpArgs false

theorem AHz {l : List Nd} {S : List (List UInt8)} {j : Nat} (hj : j < l.length) : ((Au9 l S).map tb)[j]? = some (tb (dec (Rc l S l[j].id))) := by
 rw [List.getElem?_map]
 have h1 := AB4 (l := l) (S := S) hj
 have h2 : j < (Au9 l S).length := by rw [AxK]; exact hj
 rw [List.getElem?_eq_getElem h2] at h1 ⊢
 by_cases h : Rc l S l[j].id
 ·have h3 := h1.2 h
  rw [Option.map_some, ANj h]; rw [Option.some.inj h3]
 ·have h3 : (Au9 l S)[j] ≠ true := fun e => h (h1.1 (by rw [e]))
  rw [Option.map_some, ANt h]
  have h4 : (Au9 l S)[j] = false := by simpa using h3
  rw [h4]
/-- Another one of these reaches it. -/
def AKA (l : List Nd) (s : List (List UInt8)) (x : List UInt8) : Prop := ∃ k ∈ s, k ≠ x ∧ Rc l [k] x
noncomputable def AET (l : List Nd) (s : List (List UInt8)) : List (List UInt8) := s.filter fun x => !dec (AKA l s x)
theorem AJo (l : List Nd) (hl : l.length ≤ 1000) (hp : ∀ n ∈ l, n.ps.length ≤ 1000) (some' : List (List UInt8)) (hlen : some'.length ≤ 1000) (h20 : ∀ x ∈ some', x.length = 20) : Avl Tryd.prog 18 [.sl 22 (l.map ndT), .sl 20 (some'.map idT)] (fun r =>
  (AAE l some' → ∃ s, r = .tup [.sl 20 ((AET l s).map idT), i64 ((0 : Nat) : Int)] ∧ SD s ∧ ∀ x, x ∈ s ↔ x ∈ some') ∧ (¬ AAE l some' → r = .tup [.val (.slice none 0 0), i64 ((80 : Nat) : Int)])) := by
 refine As7.toPureV (AHT (by simp) ?_)
 simp -dsimp (disch := first | assumption | omega | (simp only [AsW]; done) | (simp only [AsW]; omega)) only [↓AsZ, AsV, AsY, As0, eq_self, forall_const, Nat.reduceLT, Nat.reduceEqDiff, Nat.reduceSub, Nat.reduceMul, Nat.reduceMod, Nat.reduceDiv, Nat.reducePow, UInt8.reduceToNat, Int.reduceEq, Int.reduceLT, Int.reduceLE, ↓reduceIte, Nat.reduceAdd, Int.reduceToNat, reduceCtorEq, Nat.reduceLeDiff, ↓Atl]
 refine (AOc l hl hp).calls rfl fun r hr => ?_
 subst hr
 by_cases hok : GOk l
 case neg =>
  rw [AFG hok]
  have hno : ¬ AAE l some' := fun h => hok h.1
  simp -dsimp (disch := first | assumption | omega | (simp only [AsW]; done) | (simp only [AsW]; omega)) only [↓AsZ, AsV, AsY, As0, eq_self, forall_const, Nat.reduceLT, Nat.reduceEqDiff, Nat.reduceSub, Nat.reduceMul, Nat.reduceMod, Nat.reduceDiv, Nat.reducePow, UInt8.reduceToNat, Int.reduceEq, Int.reduceLT, Int.reduceLE, ↓reduceIte, Nat.reduceAdd, Int.reduceToNat, reduceCtorEq, Nat.reduceLeDiff, ↓Atl]
  refine (APL l hl some' (by omega)).calls rfl fun r hr => ?_
  subst hr
  simp -dsimp (disch := first | assumption | omega | (simp only [AsW]; done) | (simp only [AsW]; omega)) only [↓AsZ, AsV, AsY, As0, eq_self, forall_const, Nat.reduceLT, Nat.reduceEqDiff, Nat.reduceSub, Nat.reduceMul, Nat.reduceMod, Nat.reduceDiv, Nat.reducePow, UInt8.reduceToNat, Int.reduceEq, Int.reduceLT, Int.reduceLE, ↓reduceIte, Nat.reduceAdd, Int.reduceToNat, reduceCtorEq, Nat.reduceLeDiff, ↓Atl]
  exact ⟨fun h => absurd h hno, fun _ => trivial⟩
 rw [AJA hok]
 simp -dsimp (disch := first | assumption | omega | (simp only [AsW]; done) | (simp only [AsW]; omega)) only [↓AsZ, AsV, AsY, As0, eq_self, forall_const, Nat.reduceLT, Nat.reduceEqDiff, Nat.reduceSub, Nat.reduceMul, Nat.reduceMod, Nat.reduceDiv, Nat.reducePow, UInt8.reduceToNat, Int.reduceEq, Int.reduceLT, Int.reduceLE, ↓reduceIte, Nat.reduceAdd, Int.reduceToNat, reduceCtorEq, Nat.reduceLeDiff, ↓Atl]
 refine (APL l hl some' (by omega)).calls rfl fun r hr => ?_
 subst hr
 by_cases hkn : some'.all (AJG l) = true
 case neg =>
  have hkf : some'.all (AJG l) = false := by simpa using hkn
  have hno : ¬ AAE l some' := fun h => hkn h.2
  rw [hkf]
  simp -dsimp (disch := first | assumption | omega | (simp only [AsW]; done) | (simp only [AsW]; omega)) only [↓AsZ, AsV, AsY, As0, eq_self, forall_const, Nat.reduceLT, Nat.reduceEqDiff, Nat.reduceSub, Nat.reduceMul, Nat.reduceMod, Nat.reduceDiv, Nat.reducePow, UInt8.reduceToNat, Int.reduceEq, Int.reduceLT, Int.reduceLE, ↓reduceIte, Nat.reduceAdd, Int.reduceToNat, reduceCtorEq, Nat.reduceLeDiff, ↓Atl]
  exact ⟨fun h => absurd h hno, fun _ => trivial⟩
 rw [hkn]
 have hyes : AAE l some' := ⟨hok, hkn⟩
 simp -dsimp (disch := first | assumption | omega | (simp only [AsW]; done) | (simp only [AsW]; omega)) only [↓AsZ, AsV, AsY, As0, eq_self, forall_const, Nat.reduceLT, Nat.reduceEqDiff, Nat.reduceSub, Nat.reduceMul, Nat.reduceMod, Nat.reduceDiv, Nat.reducePow, UInt8.reduceToNat, Int.reduceEq, Int.reduceLT, Int.reduceLE, ↓reduceIte, Nat.reduceAdd, Int.reduceToNat, reduceCtorEq, Nat.reduceLeDiff, ↓Atl]
 refine (ARB some' hlen h20).calls rfl fun r hr => ?_
 obtain ⟨s, rfl, hsd, hmem⟩ := hr
 have hsl : s.length ≤ 1000 := Nat.le_trans (Axr hsd.nodup fun x hx => (hmem x).1 hx) hlen
 have hin : ∀ x ∈ s, x ∈ Atf l := fun x hx => Auz.1 (List.all_eq_true.1 hkn x ((hmem x).1 hx))
 simp -dsimp (disch := first | assumption | omega | (simp only [AsW]; done) | (simp only [AsW]; omega)) only [↓AsZ, AsV, AsY, As0, eq_self, forall_const, Nat.reduceLT, Nat.reduceEqDiff, Nat.reduceSub, Nat.reduceMul, Nat.reduceMod, Nat.reduceDiv, Nat.reducePow, UInt8.reduceToNat, Int.reduceEq, Int.reduceLT, Int.reduceLE, ↓reduceIte, Nat.reduceAdd, Int.reduceToNat, reduceCtorEq, Nat.reduceLeDiff, ↓Atl]
 refine Aua (fun q e H => ∃ (i v cp : Nat) (out : List (List UInt8)) (T : List Ob), q = s.length - i ∧ i ≤ s.length ∧ out = (s.take i).filter (fun x => !dec (AKA l s x)) ∧ out.length ≤ cp ∧ e = [(0, .sl 22 (l.map ndT)), (8, .os 20 0 v [] 0 out.length cp), (9, .sl 20 (s.map idT)), (10, i64 (i : Int))] ∧ H = .obj v (.arr out.length 20 (out.map idT)) :: T) s.length ?_ ?_
 ·exact ⟨0, 0, 0, [], [], by simp, by simp, by simp, by simp, by simp [forget, get], rfl⟩
 ·rintro q e H ⟨i, v, cp, out, T, rfl, hi, hout, hcp, rfl, rfl⟩
  have hol : out.length ≤ i := by
   rw [hout]; exact Nat.le_trans (List.length_filter_le _ _) (by simp; omega)
  by_cases h : i < s.length
  ·have hg : s[i]? = some s[i] := List.getElem?_eq_getElem h
   have hsucc := List.take_succ_eq_append_getElem h
   have hxm := List.getElem_mem h
   generalize s[i] = x at *
   simp -dsimp (disch := first | assumption | omega | (simp only [AsW]; done) | (simp only [AsW]; omega)) only [↓AsZ, AsV, AsY, As0, eq_self, forall_const, Nat.reduceLT, Nat.reduceEqDiff, Nat.reduceSub, Nat.reduceMul, Nat.reduceMod, Nat.reduceDiv, Nat.reducePow, UInt8.reduceToNat, Int.reduceEq, Int.reduceLT, Int.reduceLE, ↓reduceIte, Nat.reduceAdd, Int.reduceToNat, reduceCtorEq, Nat.reduceLeDiff, ↓Atl, hg]
   refine Aua (fun q e H => ∃ (k : Nat) (b : Bool) (T2 : List Ob), q = s.length - k ∧ k ≤ s.length ∧ (b = true ↔ ∀ y ∈ s.take k, ¬ (y ≠ x ∧ Rc l [y] x)) ∧ e = [(0, .sl 22 (l.map ndT)), (8, .os 20 0 v [] 0 out.length cp), (9, .sl 20 (s.map idT)), (10, i64 (i : Int)), (11, tb b), (12, i64 (k : Int))] ∧ H = .obj v (.arr out.length 20 (out.map idT)) :: T2 ∧ T.length ≤ T2.length) s.length ?_ ?_
   ·exact ⟨0, true, T, by simp, by simp, by simp, by simp [forget, get], rfl, Nat.le_refl _⟩
   ·rintro q e H ⟨k, b, T2, rfl, hk, hb, rfl, rfl, hT2⟩
    by_cases h2 : k < s.length
    ·have hgk : s[k]? = some s[k] := List.getElem?_eq_getElem h2
     have hsucc2 := List.take_succ_eq_append_getElem h2
     have hym := List.getElem_mem h2
     generalize s[k] = y at *
     simp -dsimp (disch := first | assumption | omega | (simp only [AsW]; done) | (simp only [AsW]; omega)) only [↓AsZ, AsV, AsY, As0, eq_self, forall_const, Nat.reduceLT, Nat.reduceEqDiff, Nat.reduceSub, Nat.reduceMul, Nat.reduceMod, Nat.reduceDiv, Nat.reducePow, UInt8.reduceToNat, Int.reduceEq, Int.reduceLT, Int.reduceLE, ↓reduceIte, Nat.reduceAdd, Int.reduceToNat, reduceCtorEq, Nat.reduceLeDiff, ↓Atl, hg, hgk, Ate, AxZ]
     have hz : (Ob.obj v (.arr out.length 20 (out.map idT)) :: (T2 ++ [Ob.obj 0 (.arr 1 20 [.arr 20 1 (y.map by8)])]))[T2.length + 1]? = some (.obj 0 (.arr 1 20 [.arr 20 1 (y.map by8)])) := by simp
     refine AHc (by rfl) hz (by simp) ?_
     simp -dsimp (disch := first | assumption | omega | (simp only [AsW]; done) | (simp only [AsW]; omega)) only [↓AsZ, AsV, AsY, As0, eq_self, forall_const, Nat.reduceLT, Nat.reduceEqDiff, Nat.reduceSub, Nat.reduceMul, Nat.reduceMod, Nat.reduceDiv, Nat.reducePow, UInt8.reduceToNat, Int.reduceEq, Int.reduceLT, Int.reduceLE, ↓reduceIte, Nat.reduceAdd, Int.reduceToNat, reduceCtorEq, Nat.reduceLeDiff, ↓Atl, AKr]
     refine (show Avl _ _ [.sl 22 (l.map ndT), .sl 20 ([y].map idT)] _ from AKU l [y] hok.1 hl (fun z hz => by rw [List.mem_singleton] at hz; subst hz; exact hin _ hym) (fun n hn => Nat.le_trans (hp n hn) (by omega)) (by simp)).calls rfl fun r hr => ?_
     subst hr
     by_cases hki : k = i
     ·subst hki
      have hyx : y = x := by rw [hg] at hgk; cases hgk; rfl
      subst hyx
      simp -dsimp (disch := first | assumption | omega | (simp only [AsW]; done) | (simp only [AsW]; omega)) only [↓AsZ, AsV, AsY, As0, eq_self, forall_const, Nat.reduceLT, Nat.reduceEqDiff, Nat.reduceSub, Nat.reduceMul, Nat.reduceMod, Nat.reduceDiv, Nat.reducePow, UInt8.reduceToNat, Int.reduceEq, Int.reduceLT, Int.reduceLE, ↓reduceIte, Nat.reduceAdd, Int.reduceToNat, reduceCtorEq, Nat.reduceLeDiff, ↓Atl, ne_eq]
      exact Atk (s.length - (k + 1)) (by omega) (by simp; omega) ⟨k + 1, b, _, rfl, by omega, by
       rw [hb, hsucc2]
       exact ⟨fun h z hz => (List.mem_append.1 hz).elim (h z) fun e => by rw [List.mem_singleton.1 e]; exact fun h => h.1 rfl, fun h z hz => h z (List.mem_append_left _ hz)⟩, by simp [forget, get], rfl, by simp; omega⟩
     ·have hyx : y ≠ x := by
       rintro rfl
       exact hki ((List.getElem?_inj h2 hsd.nodup).1 (by rw [hgk, hg]))
      simp -dsimp (disch := first | assumption | omega | (simp only [AsW]; done) | (simp only [AsW]; omega)) only [↓AsZ, AsV, AsY, As0, eq_self, forall_const, Nat.reduceLT, Nat.reduceEqDiff, Nat.reduceSub, Nat.reduceMul, Nat.reduceMod, Nat.reduceDiv, Nat.reducePow, UInt8.reduceToNat, Int.reduceEq, Int.reduceLT, Int.reduceLE, ↓reduceIte, Nat.reduceAdd, Int.reduceToNat, reduceCtorEq, Nat.reduceLeDiff, ↓Atl, hg, hki, ne_eq, Ate]
      refine (AHh l x (by omega)).calls rfl fun r hr => ?_
      subst hr
      obtain ⟨j, hj, hfj, hjd⟩ := AAY (hin x hxm)
      rw [hfj]
      have hget := AHz (l := l) (S := [y]) hj
      rw [hjd] at hget
      by_cases hr : Rc l [y] x
      ·rw [ANj hr] at hget
       simp -dsimp (disch := first | assumption | omega | (simp only [AsW]; done) | (simp only [AsW]; omega)) only [↓AsZ, AsV, AsY, As0, eq_self, forall_const, Nat.reduceLT, Nat.reduceEqDiff, Nat.reduceSub, Nat.reduceMul, Nat.reduceMod, Nat.reduceDiv, Nat.reducePow, UInt8.reduceToNat, Int.reduceEq, Int.reduceLT, Int.reduceLE, ↓reduceIte, Nat.reduceAdd, Int.reduceToNat, reduceCtorEq, Nat.reduceLeDiff, ↓Atl, hget]
       exact Atk (s.length - (k + 1)) (by omega) (by simp; omega) ⟨k + 1, false, _, rfl, by omega, by
        rw [hsucc2]
        exact ⟨fun h => (by cases h), fun h => absurd ⟨hyx, hr⟩ (h y (by simp))⟩, by simp [forget, get], rfl, by simp; omega⟩
      ·rw [ANt hr] at hget
       simp -dsimp (disch := first | assumption | omega | (simp only [AsW]; done) | (simp only [AsW]; omega)) only [↓AsZ, AsV, AsY, As0, eq_self, forall_const, Nat.reduceLT, Nat.reduceEqDiff, Nat.reduceSub, Nat.reduceMul, Nat.reduceMod, Nat.reduceDiv, Nat.reducePow, UInt8.reduceToNat, Int.reduceEq, Int.reduceLT, Int.reduceLE, ↓reduceIte, Nat.reduceAdd, Int.reduceToNat, reduceCtorEq, Nat.reduceLeDiff, ↓Atl, hget]
       exact Atk (s.length - (k + 1)) (by omega) (by simp; omega) ⟨k + 1, b, _, rfl, by omega, by
        rw [hb, hsucc2]
        exact ⟨fun h z hz => (List.mem_append.1 hz).elim (h z) fun e => by rw [List.mem_singleton.1 e]; exact fun h => hr h.2, fun h z hz => h z (List.mem_append_left _ hz)⟩, by simp [forget, get], rfl, by simp; omega⟩
    ·have hk2 : k = s.length := by omega
     subst hk2
     rw [List.take_length] at hb
     simp -dsimp (disch := first | assumption | omega | (simp only [AsW]; done) | (simp only [AsW]; omega)) only [↓AsZ, AsV, AsY, As0, eq_self, forall_const, Nat.reduceLT, Nat.reduceEqDiff, Nat.reduceSub, Nat.reduceMul, Nat.reduceMod, Nat.reduceDiv, Nat.reducePow, UInt8.reduceToNat, Int.reduceEq, Int.reduceLT, Int.reduceLE, ↓reduceIte, Nat.reduceAdd, Int.reduceToNat, reduceCtorEq, Nat.reduceLeDiff, ↓Atl, hg]
     have htk : (out.map idT).take out.length = out.map idT := AuO rfl
     have hxt : idT x = .arr 20 1 (x.map by8) := Ate
     cases b with
     | true =>
      have hd : dec (AKA l s x) = false := ANt fun ⟨k, hk, h1, h2⟩ => hb.1 rfl k hk ⟨h1, h2⟩
      have hout' : (s.take (i + 1)).filter (fun x => !dec (AKA l s x)) = out ++ [x] := by
       rw [hsucc, List.filter_append, ← hout]; simp [hd]
      simp -dsimp (disch := first | assumption | omega | (simp only [AsW]; done) | (simp only [AsW]; omega)) only [↓AsZ, AsV, AsY, As0, eq_self, forall_const, Nat.reduceLT, Nat.reduceEqDiff, Nat.reduceSub, Nat.reduceMul, Nat.reduceMod, Nat.reduceDiv, Nat.reducePow, UInt8.reduceToNat, Int.reduceEq, Int.reduceLT, Int.reduceLE, ↓reduceIte, Nat.reduceAdd, Int.reduceToNat, reduceCtorEq, Nat.reduceLeDiff, ↓Atl, hg, hxt, AxZ, Axg, htk]
      exact Atk (s.length - (i + 1)) (by omega) (by simp) ⟨i + 1, v + 1, _, out ++ [x], _, rfl, by omega, hout'.symm, Nat.le_refl _, by simp [forget, get], by simp [hxt]; rfl⟩
     | false =>
      have hd : dec (AKA l s x) = true := ANj (Classical.byContradiction fun hno => by
       have := hb.2 fun y hy ⟨h1, h2⟩ => hno ⟨y, hy, h1, h2⟩
       cases this)
      have hout' : (s.take (i + 1)).filter (fun x => !dec (AKA l s x)) = out := by
       rw [hsucc, List.filter_append, ← hout]; simp [hd]
      simp -dsimp (disch := first | assumption | omega | (simp only [AsW]; done) | (simp only [AsW]; omega)) only [↓AsZ, AsV, AsY, As0, eq_self, forall_const, Nat.reduceLT, Nat.reduceEqDiff, Nat.reduceSub, Nat.reduceMul, Nat.reduceMod, Nat.reduceDiv, Nat.reducePow, UInt8.reduceToNat, Int.reduceEq, Int.reduceLT, Int.reduceLE, ↓reduceIte, Nat.reduceAdd, Int.reduceToNat, reduceCtorEq, Nat.reduceLeDiff, ↓Atl, hg]
      exact Atk (s.length - (i + 1)) (by omega) (by simp) ⟨i + 1, v, cp, out, _, rfl, by omega, hout'.symm, hcp, by simp [forget, get], rfl⟩
  ·have hi2 : i = s.length := by omega
   subst hi2
   rw [List.take_length] at hout
   simp -dsimp (disch := first | assumption | omega | (simp only [AsW]; done) | (simp only [AsW]; omega)) only [↓AsZ, AsV, AsY, As0, eq_self, forall_const, Nat.reduceLT, Nat.reduceEqDiff, Nat.reduceSub, Nat.reduceMul, Nat.reduceMod, Nat.reduceDiv, Nat.reducePow, UInt8.reduceToNat, Int.reduceEq, Int.reduceLT, Int.reduceLE, ↓reduceIte, Nat.reduceAdd, Int.reduceToNat, reduceCtorEq, Nat.reduceLeDiff, ↓Atl]
   exact ⟨fun _ => ⟨s, by rw [hout]; rfl, hsd, hmem⟩, fun h => absurd hyes h⟩
end Go.Proofs.YtingoaihnlhiaaaDoor

