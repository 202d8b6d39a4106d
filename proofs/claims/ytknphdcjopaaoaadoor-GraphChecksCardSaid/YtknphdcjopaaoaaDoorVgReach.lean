/- gitlikeref9.Reach: marks are handed on till nothing is new. -/
import Derived.Test.YtknphdcjopaaoaaDoorVgPlain
namespace Go.Proofs.YtknphdcjopaaoaaDoor
open Go.RowKit
set_option linter.unusedVariables false
set_option linter.unusedSimpArgs false

theorem fnd_id {l : List Nd} (hn : (idsOf l).Nodup) {i : Nat} (h : i < l.length) : fnd l l[i].id = i := by
  refine fnd_at h (fun k hk e => ?_) rfl
  have h1 : (idsOf l)[k]? = some l[k].id := by rw [idsOf, List.getElem?_map, List.getElem?_eq_getElem (by omega)]; rfl
  have h2 : (idsOf l)[i]? = some l[i].id := by rw [idsOf, List.getElem?_map, List.getElem?_eq_getElem h]; rfl
  have := (List.getElem?_inj (i := k) (j := i) (by rw [idsOf, List.length_map]; omega) hn).1 (by rw [h1, h2, e])
  omega
theorem fnd_in {l : List Nd} {x : List UInt8} (hx : x ∈ idsOf l) : ∃ i, ∃ h : i < l.length, fnd l x = i ∧ l[i].id = x := by
  obtain ⟨n, hn, rfl⟩ := List.mem_map.1 hx
  have hlt : (l.findIdx fun m => m.id == n.id) < l.length := List.findIdx_lt_length_of_exists ⟨n, hn, by simp⟩
  refine ⟨l.findIdx fun m => m.id == n.id, hlt, ?_, ?_⟩
  · unfold fnd; rw [if_pos ⟨n, hn, rfl⟩]
  · have := List.findIdx_getElem (xs := l) (p := fun m => m.id == n.id) (w := hlt)
    simpa using this
theorem fnd_neg {l : List Nd} {x : List UInt8} : fnd l x < 0 ↔ ¬ x ∈ idsOf l := by
  constructor
  · intro h hx
    obtain ⟨i, _, e, _⟩ := fnd_in hx
    omega
  · intro h
    unfold fnd
    rw [if_neg]
    · omega
    · rintro ⟨n, hn, e⟩; exact h (e ▸ mem_ids hn)

noncomputable def reachM (l : List Nd) (S : List (List UInt8)) : List Bool := l.map fun n => @decide (Rc l S n.id) (Classical.propDecidable _)
theorem reachM_len {l : List Nd} {S : List (List UInt8)} : (reachM l S).length = l.length := by simp [reachM]
theorem reachM_get {l : List Nd} {S : List (List UInt8)} {i : Nat} (h : i < l.length) : (reachM l S)[i]? = some true ↔ Rc l S l[i].id := by
  unfold reachM
  rw [List.getElem?_map, List.getElem?_eq_getElem h]
  simp

/-- GMarks that are right so far. -/
structure GMarks (l : List Nd) (S : List (List UInt8)) (m : List Bool) : Prop where
  len : m.length = l.length
  sound : ∀ i (h : i < l.length), m[i]? = some true → Rc l S l[i].id
theorem GMarks.set {l : List Nd} {S : List (List UInt8)} {m : List Bool} (h : GMarks l S m) {i : Nat} (hi : i < l.length) (hr : Rc l S l[i].id) : GMarks l S (m.set i true) := by
  refine ⟨by rw [List.length_set, h.len], fun j hj hm => ?_⟩
  rw [List.getElem?_set] at hm
  split at hm
  · rename_i e; subst e; exact hr
  · exact h.sound j hj hm
/-- What is marked stays marked. -/
def Grows (m m' : List Bool) : Prop := ∀ i : Nat, m[i]? = some true → m'[i]? = some true
theorem Grows.refl (m : List Bool) : Grows m m := fun _ h => h
theorem Grows.set {m : List Bool} {i : Nat} (hi : i < m.length) : Grows m (m.set i true) := fun j h => by
  rw [List.getElem?_set]
  split
  · rename_i e; subst e; simp [hi]
  · exact h
/-- How many are not marked. -/
def unm (m : List Bool) : Nat := m.count false
theorem unm_set {m : List Bool} {i : Nat} (h : m[i]? = some false) : unm (m.set i true) < unm m := by
  unfold unm
  obtain ⟨hi, he⟩ := List.getElem?_eq_some_iff.1 h
  have e := List.take_append_drop i m
  have hd : m.drop i = m[i] :: m.drop (i + 1) := List.drop_eq_getElem_cons hi
  have hs : m.set i true = m.take i ++ true :: m.drop (i + 1) := List.set_eq_take_append_cons_drop.trans (by rw [if_pos hi])
  have h1 : List.count false m = List.count false (m.take i) + List.count false (m[i] :: m.drop (i + 1)) := by rw [← List.count_append, ← hd, e]
  rw [hs, List.count_append, h1, he]
  simp
theorem marks_done {l : List Nd} (hv : Valid l) {S : List (List UInt8)} {m : List Bool} (h : GMarks l S m) (hb : ∀ x ∈ S, ∀ i (hi : i < l.length), l[i].id = x → m[i]? = some true)
    (hc : ∀ i (hi : i < l.length), m[i]? = some true → ∀ p ∈ l[i].ps, ∀ j (hj : j < l.length), l[j].id = p → m[j]? = some true) : m = reachM l S := by
  have comp : ∀ x, Rc l S x → ∀ i (hi : i < l.length), l[i].id = x → m[i]? = some true := by
    intro x hx
    induction hx with
    | base hx => exact hb _ hx
    | step _ h2 ih =>
      intro j hj hje
      obtain ⟨n, hn, hne, hp⟩ := pOf_mem h2
      obtain ⟨i, hi, rfl⟩ := List.mem_iff_getElem.1 hn
      exact hc i hi (ih i hi hne) _ hp j hj hje
  apply List.ext_getElem?
  intro i
  by_cases hi : i < l.length
  · have h1 : m[i]? = some true ↔ (reachM l S)[i]? = some true := by
      rw [reachM_get hi]
      exact ⟨h.sound i hi, fun hr => comp _ hr i hi rfl⟩
    have hm : m[i]? = some (m[i]'(by rw [h.len]; exact hi)) := List.getElem?_eq_getElem _
    have hr : (reachM l S)[i]? = some ((reachM l S)[i]'(by rw [reachM_len]; exact hi)) := List.getElem?_eq_getElem _
    rw [hm, hr] at h1 ⊢
    simp only [Option.some.injEq] at h1 ⊢
    exact Bool.eq_iff_iff.2 h1
  · rw [List.getElem?_eq_none (by rw [h.len]; omega), List.getElem?_eq_none (by rw [reachM_len]; omega)]
theorem map_tb_set {m : List Bool} {i : Nat} {b : Bool} : (m.map tb).set i (tb b) = (m.set i b).map tb := by rw [List.map_set]
theorem unset_not {m : List Bool} {j : Nat} {b : Bool} (h : m[j]? = some b) (hb : b ≠ true) : m[j]? = some false := by rw [h]; cases b <;> simp_all
theorem isTup_idT {l : List UInt8} : isTup (idT l) = false := by rw [idT_is]; rfl
theorem tb_true : tb true = TV.val (.bool true) := by unfold tb; rfl

theorem reachV (l : List Nd) (S : List (List UInt8)) (hv : Valid l) (hl : l.length ≤ 1000) (hS : ∀ x ∈ S, x ∈ idsOf l) (hp : ∀ n ∈ l, n.ps.length ≤ 100000) (hs : S.length ≤ 100000) : VPure Tryd.prog 31 [.sl 22 (l.map ndT), .sl 20 (S.map idT)] (fun r => r = .sl 1 ((reachM l S).map tb)) := by
  refine VCalls.toPureV (go_ref9_Reach (by simp) ?_)
  simp -dsimp (disch := first | assumption | omega) only [↓vmPre, vmPost, vmWrd, vmDat, eq_self, forall_const, Nat.reduceLT, Nat.reduceEqDiff, Nat.reduceSub, Nat.reduceMul, Nat.reduceMod, Nat.reduceDiv, Nat.reducePow, UInt8.reduceToNat, Int.reduceEq, Int.reduceLT, Int.reduceLE, ↓reduceIte, Nat.reduceEqDiff, Nat.reduceAdd, Int.reduceToNat, reduceCtorEq, Nat.reduceLeDiff, ↓u_ref9_Reach]
  refine w_loop (fun q e H => ∃ (i : Nat) (m : List Bool), q = S.length - i ∧ i ≤ S.length ∧ GMarks l S m ∧ (∀ x ∈ S.take i, ∀ j (hj : j < l.length), l[j].id = x → m[j]? = some true) ∧ e = [(0, .sl 22 (l.map ndT)), (1, .sl 20 (S.map idT)), (5, .os 1 0 0 [] 0 l.length l.length), (6, i64 (i : Int))] ∧ H = [.obj 0 (.arr l.length 1 (m.map tb))]) S.length ?_ ?_
  · exact ⟨0, List.replicate l.length false, by simp, by simp, ⟨by simp, fun i h hm => by simp [List.getElem?_replicate] at hm⟩, by simp, rfl, by simp [tb]⟩
  · rintro q e H ⟨i, m, rfl, hi, hm, hb, rfl, rfl⟩
    by_cases h : i < S.length
    · have hg : S[i]? = some S[i] := List.getElem?_eq_getElem h
      have hsucc := List.take_succ_eq_append_getElem h
      obtain ⟨j, hj, hjf, hje⟩ := fnd_in (hS S[i] (List.getElem_mem h))
      have hRc : Rc l S l[j].id := hje ▸ .base (List.getElem_mem h)
      generalize S[i] = x at *
      simp -dsimp (disch := first | assumption | omega) only [↓vmPre, vmPost, vmWrd, vmDat, eq_self, forall_const, Nat.reduceLT, Nat.reduceEqDiff, Nat.reduceSub, Nat.reduceMul, Nat.reduceMod, Nat.reduceDiv, Nat.reducePow, UInt8.reduceToNat, Int.reduceEq, Int.reduceLT, Int.reduceLE, ↓reduceIte, Nat.reduceEqDiff, Nat.reduceAdd, Int.reduceToNat, reduceCtorEq, Nat.reduceLeDiff, ↓u_ref9_Reach, hg, isAg_idT, width_idT, isTup_idT]
      refine (find9 l x (by omega)).calls rfl ?_
      rintro r rfl
      rw [hjf]
      have hml : j < m.length := by rw [hm.len]; exact hj
      have hmj : m[j]? = some m[j] := List.getElem?_eq_getElem hml
      simp -dsimp (disch := first | assumption | omega) only [↓vmPre, vmPost, vmWrd, vmDat, eq_self, forall_const, Nat.reduceLT, Nat.reduceEqDiff, Nat.reduceSub, Nat.reduceMul, Nat.reduceMod, Nat.reduceDiv, Nat.reducePow, UInt8.reduceToNat, Int.reduceEq, Int.reduceLT, Int.reduceLE, ↓reduceIte, Nat.reduceEqDiff, Nat.reduceAdd, Int.reduceToNat, reduceCtorEq, Nat.reduceLeDiff, ↓u_ref9_Reach, hmj]
      refine Rnd_keep (S.length - (i + 1)) (by omega) (by simp) ⟨i + 1, m.set j true, rfl, by omega, hm.set hj hRc, fun y hy k hk hke => ?_, rfl, ?_⟩
      · rw [hsucc, List.mem_append, List.mem_singleton] at hy
        rcases hy with hy | rfl
        · exact Grows.set hml k (hb y hy k hk hke)
        · have h1 := fnd_id hv.nodup hk
          have h2 := fnd_id hv.nodup hj
          rw [hke] at h1; rw [hje, h1] at h2
          have h3 : k = j := by omega
          subst h3
          rw [List.getElem?_set_self hml]
      · simp [tb]
    · have hi2 : i = S.length := by omega
      rw [hi2, List.take_length] at hb
      clear hi2 hi
      simp -dsimp (disch := first | assumption | omega) only [↓vmPre, vmPost, vmWrd, vmDat, eq_self, forall_const, Nat.reduceLT, Nat.reduceEqDiff, Nat.reduceSub, Nat.reduceMul, Nat.reduceMod, Nat.reduceDiv, Nat.reducePow, UInt8.reduceToNat, Int.reduceEq, Int.reduceLT, Int.reduceLE, ↓reduceIte, Nat.reduceEqDiff, Nat.reduceAdd, Int.reduceToNat, reduceCtorEq, Nat.reduceLeDiff, ↓u_ref9_Reach]
      -- again and again
      refine w_loop (fun q e H => ∃ (again : Bool) (m : List Bool), q = unm m + (if again then 1 else 0) ∧ GMarks l S m ∧ (∀ x ∈ S, ∀ j (hj : j < l.length), l[j].id = x → m[j]? = some true) ∧
        (again = false → ∀ i (hi : i < l.length), m[i]? = some true → ∀ p ∈ l[i].ps, ∀ j (hj : j < l.length), l[j].id = p → m[j]? = some true) ∧
        e = [(0, .sl 22 (l.map ndT)), (5, .os 1 0 0 [] 0 l.length l.length), (8, tb again)] ∧ H = [.obj 0 (.arr l.length 1 (m.map tb))]) (unm m + 1) ?_ ?_
      · exact ⟨true, m, rfl, hm, hb, by simp, rfl, rfl⟩
      · clear hb hm
        rintro q e H ⟨again, m, rfl, hm, hb, hc, rfl, rfl⟩
        cases again with
        | false =>
          simp -dsimp (disch := first | assumption | omega) only [↓vmPre, vmPost, vmWrd, vmDat, eq_self, forall_const, Nat.reduceLT, Nat.reduceEqDiff, Nat.reduceSub, Nat.reduceMul, Nat.reduceMod, Nat.reduceDiv, Nat.reducePow, UInt8.reduceToNat, Int.reduceEq, Int.reduceLT, Int.reduceLE, ↓reduceIte, Nat.reduceEqDiff, Nat.reduceAdd, Int.reduceToNat, reduceCtorEq, Nat.reduceLeDiff, ↓u_ref9_Reach]
          rw [marks_done hv hm hb (hc rfl)]
          have hlen : (reachM l S).length = l.length := reachM_len
          have htk : (reachM l S).take l.length = reachM l S := List.take_of_length_le (by omega)
          simp -dsimp (disch := first | assumption | omega) only [↓vmPre, vmPost, vmWrd, vmDat, eq_self, forall_const, Nat.reduceLT, Nat.reduceEqDiff, Nat.reduceSub, Nat.reduceMul, Nat.reduceMod, Nat.reduceDiv, Nat.reducePow, UInt8.reduceToNat, Int.reduceEq, Int.reduceLT, Int.reduceLE, ↓reduceIte, Nat.reduceEqDiff, Nat.reduceAdd, Int.reduceToNat, reduceCtorEq, Nat.reduceLeDiff, ↓u_ref9_Reach, htk]
        | true =>
          clear hc
          simp -dsimp (disch := first | assumption | omega) only [↓vmPre, vmPost, vmWrd, vmDat, eq_self, forall_const, Nat.reduceLT, Nat.reduceEqDiff, Nat.reduceSub, Nat.reduceMul, Nat.reduceMod, Nat.reduceDiv, Nat.reducePow, UInt8.reduceToNat, Int.reduceEq, Int.reduceLT, Int.reduceLE, ↓reduceIte, Nat.reduceEqDiff, Nat.reduceAdd, Int.reduceToNat, reduceCtorEq, Nat.reduceLeDiff, ↓u_ref9_Reach]
          -- a pass
          refine w_loop (fun q e H => ∃ (i : Nat) (again : Bool) (m' : List Bool), q = l.length - i ∧ i ≤ l.length ∧ GMarks l S m' ∧ (∀ x ∈ S, ∀ j (hj : j < l.length), l[j].id = x → m'[j]? = some true) ∧ unm m' + (if again then 1 else 0) ≤ unm m ∧
            (again = false → ∀ k (hk : k < l.length), k < i → m'[k]? = some true → ∀ p ∈ l[k].ps, ∀ j (hj : j < l.length), l[j].id = p → m'[j]? = some true) ∧
            e = [(0, .sl 22 (l.map ndT)), (5, .os 1 0 0 [] 0 l.length l.length), (8, tb again), (9, i64 (i : Int))] ∧ H = [.obj 0 (.arr l.length 1 (m'.map tb))]) l.length ?_ ?_
          · exact ⟨0, false, m, by simp, by simp, hm, hb, by simp, fun _ k _ hk => by omega, rfl, rfl⟩
          · clear hb hm
            rintro q e H ⟨i, again, m', rfl, hi, hm, hb, hu, hc, rfl, rfl⟩
            by_cases h : i < l.length
            · have hg : l[i]? = some l[i] := List.getElem?_eq_getElem h
              have hpi := hp l[i] (List.getElem_mem h)
              simp -dsimp (disch := first | assumption | omega) only [↓vmPre, vmPost, vmWrd, vmDat, eq_self, forall_const, Nat.reduceLT, Nat.reduceEqDiff, Nat.reduceSub, Nat.reduceMul, Nat.reduceMod, Nat.reduceDiv, Nat.reducePow, UInt8.reduceToNat, Int.reduceEq, Int.reduceLT, Int.reduceLE, ↓reduceIte, Nat.reduceEqDiff, Nat.reduceAdd, Int.reduceToNat, reduceCtorEq, Nat.reduceLeDiff, ↓u_ref9_Reach]
              -- the parents
              refine w_loop (fun q e H => ∃ (k : Nat) (again : Bool) (m' : List Bool), q = l[i].ps.length - k ∧ k ≤ l[i].ps.length ∧ GMarks l S m' ∧ (∀ x ∈ S, ∀ j (hj : j < l.length), l[j].id = x → m'[j]? = some true) ∧ unm m' + (if again then 1 else 0) ≤ unm m ∧
                (again = false → ∀ k (hk : k < l.length), k < i → m'[k]? = some true → ∀ p ∈ l[k].ps, ∀ j (hj : j < l.length), l[j].id = p → m'[j]? = some true) ∧
                (again = false → m'[i]? = some true → ∀ p ∈ l[i].ps.take k, ∀ j (hj : j < l.length), l[j].id = p → m'[j]? = some true) ∧
                e = [(0, .sl 22 (l.map ndT)), (5, .os 1 0 0 [] 0 l.length l.length), (8, tb again), (9, i64 (i : Int)), (10, i64 (k : Int))] ∧ H = [.obj 0 (.arr l.length 1 (m'.map tb))]) l[i].ps.length ?_ ?_
              · exact ⟨0, again, m', by simp, by simp, hm, hb, hu, hc, by simp, rfl, rfl⟩
              · clear hb hm hu hc
                rintro q e H ⟨k, again, m', rfl, hk, hm, hb, hu, hc, hd, rfl, rfl⟩
                have hml : i < m'.length := by rw [hm.len]; exact h
                have hmi : m'[i]? = some m'[i] := List.getElem?_eq_getElem hml
                by_cases h2 : k < l[i].ps.length ∧ m'[i] = true
                · obtain ⟨h2, h3⟩ := h2
                  rw [h3] at hmi
                  have hg2 : l[i].ps[k]? = some l[i].ps[k] := List.getElem?_eq_getElem h2
                  have hsucc := List.take_succ_eq_append_getElem h2
                  obtain ⟨j, hj, hjf, hje⟩ := fnd_in (hv.there l[i] (List.getElem_mem h) l[i].ps[k] (List.getElem_mem h2))
                  have hRc : Rc l S l[j].id := by
                    rw [hje]
                    exact .step (hm.sound i h hmi) (by rw [pOf_id hv.nodup (List.getElem_mem h)]; exact List.getElem_mem h2)
                  have hjl : j < m'.length := by rw [hm.len]; exact hj
                  have hmj : m'[j]? = some m'[j] := List.getElem?_eq_getElem hjl
                  have huniq : ∀ j' (hj' : j' < l.length), l[j'].id = l[i].ps[k] → j' = j := fun j' hj' e => by
                    have h1 := fnd_id hv.nodup hj'
                    have h2 := fnd_id hv.nodup hj
                    rw [e] at h1; rw [hje, h1] at h2; omega
                  generalize hx : l[i].ps[k] = x at *
                  generalize hn : l[i] = n at *
                  simp -dsimp (disch := first | assumption | omega) only [↓vmPre, vmPost, vmWrd, vmDat, eq_self, forall_const, Nat.reduceLT, Nat.reduceEqDiff, Nat.reduceSub, Nat.reduceMul, Nat.reduceMod, Nat.reduceDiv, Nat.reducePow, UInt8.reduceToNat, Int.reduceEq, Int.reduceLT, Int.reduceLE, ↓reduceIte, Nat.reduceEqDiff, Nat.reduceAdd, Int.reduceToNat, reduceCtorEq, Nat.reduceLeDiff, ↓u_ref9_Reach, hg, hg2, hmi, ndT_is, isAg_idT, width_idT, isTup_idT]
                  refine (find9 l x (by omega)).calls rfl ?_
                  rintro r rfl
                  rw [hjf]
                  cases hb2 : m'[j] with
                  | true =>
                    rw [hb2] at hmj
                    simp -dsimp (disch := first | assumption | omega) only [↓vmPre, vmPost, vmWrd, vmDat, eq_self, forall_const, Nat.reduceLT, Nat.reduceEqDiff, Nat.reduceSub, Nat.reduceMul, Nat.reduceMod, Nat.reduceDiv, Nat.reducePow, UInt8.reduceToNat, Int.reduceEq, Int.reduceLT, Int.reduceLE, ↓reduceIte, Nat.reduceEqDiff, Nat.reduceAdd, Int.reduceToNat, reduceCtorEq, Nat.reduceLeDiff, ↓u_ref9_Reach, hmj]
                    refine Rnd_keep (n.ps.length - (k + 1)) (by omega) (by simp) ⟨k + 1, again, m', rfl, by omega, hm, hb, hu, hc, fun ha hm2 p hp' j' hj' hje' => ?_, rfl, rfl⟩
                    rw [hsucc, List.mem_append, List.mem_singleton] at hp'
                    rcases hp' with hp' | rfl
                    · exact hd ha hm2 p hp' j' hj' hje'
                    · rw [huniq j' hj' hje']; exact hmj
                  | false =>
                    rw [hb2] at hmj
                    have hlt := unm_set hmj
                    simp -dsimp (disch := first | assumption | omega) only [↓vmPre, vmPost, vmWrd, vmDat, eq_self, forall_const, Nat.reduceLT, Nat.reduceEqDiff, Nat.reduceSub, Nat.reduceMul, Nat.reduceMod, Nat.reduceDiv, Nat.reducePow, UInt8.reduceToNat, Int.reduceEq, Int.reduceLT, Int.reduceLE, ↓reduceIte, Nat.reduceEqDiff, Nat.reduceAdd, Int.reduceToNat, reduceCtorEq, Nat.reduceLeDiff, ↓u_ref9_Reach, hmj]
                    refine Rnd_keep (n.ps.length - (k + 1)) (by omega) (by simp) ⟨k + 1, true, m'.set j true, rfl, by omega, hm.set hj hRc, fun y hy k' hk' hke' => Grows.set hjl k' (hb y hy k' hk' hke'), ?_, by simp, by simp, rfl, by simp [tb]⟩
                    simp only [if_true]
                    split at hu <;> omega
                · have hdone : again = false → m'[i]? = some true → ∀ p ∈ l[i].ps, ∀ j (hj : j < l.length), l[j].id = p → m'[j]? = some true := fun ha hm2 => by
                    have h3 : m'[i] = true := by rw [hm2] at hmi; simpa using hmi.symm
                    have h4 : k = l[i].ps.length := by
                      refine Classical.byContradiction fun hne => h2 ⟨by omega, h3⟩
                    have := hd ha hm2
                    rwa [h4, List.take_length] at this
                  have hfin : ∃ (i' : Nat) (again' : Bool) (m2 : List Bool), l.length - (i + 1) = l.length - i' ∧ i' ≤ l.length ∧ GMarks l S m2 ∧ (∀ x ∈ S, ∀ j (hj : j < l.length), l[j].id = x → m2[j]? = some true) ∧ unm m2 + (if again' then 1 else 0) ≤ unm m ∧
                      (again' = false → ∀ k (hk : k < l.length), k < i' → m2[k]? = some true → ∀ p ∈ l[k].ps, ∀ j (hj : j < l.length), l[j].id = p → m2[j]? = some true) ∧
                      [((0 : Nat), TV.sl 22 (l.map ndT)), (5, .os 1 0 0 [] 0 l.length l.length), (8, tb again), (9, i64 ((i + 1 : Nat) : Int))] = [(0, .sl 22 (l.map ndT)), (5, .os 1 0 0 [] 0 l.length l.length), (8, tb again'), (9, i64 (i' : Int))] ∧ [Ob.obj 0 (.arr l.length 1 (m'.map tb))] = [.obj 0 (.arr l.length 1 (m2.map tb))] := by
                    refine ⟨i + 1, again, m', rfl, by omega, hm, hb, hu, fun ha k' hk' hki hm2 => ?_, rfl, rfl⟩
                    by_cases e : k' = i
                    · subst e; exact hdone ha hm2
                    · exact hc ha k' hk' (by omega) hm2
                  clear hdone hd
                  by_cases h3 : k < l[i].ps.length
                  · have h4 : m'[i] = false := by
                      cases hb4 : m'[i] with
                      | false => rfl
                      | true => exact absurd ⟨h3, hb4⟩ h2
                    rw [h4] at hmi
                    simp -dsimp (disch := first | assumption | omega) only [↓vmPre, vmPost, vmWrd, vmDat, eq_self, forall_const, Nat.reduceLT, Nat.reduceEqDiff, Nat.reduceSub, Nat.reduceMul, Nat.reduceMod, Nat.reduceDiv, Nat.reducePow, UInt8.reduceToNat, Int.reduceEq, Int.reduceLT, Int.reduceLE, ↓reduceIte, Nat.reduceEqDiff, Nat.reduceAdd, Int.reduceToNat, reduceCtorEq, Nat.reduceLeDiff, ↓u_ref9_Reach, hg, hmi, ndT_is]
                    exact Rnd_keep (l.length - (i + 1)) (by omega) (by simp) hfin
                  · simp -dsimp (disch := first | assumption | omega) only [↓vmPre, vmPost, vmWrd, vmDat, eq_self, forall_const, Nat.reduceLT, Nat.reduceEqDiff, Nat.reduceSub, Nat.reduceMul, Nat.reduceMod, Nat.reduceDiv, Nat.reducePow, UInt8.reduceToNat, Int.reduceEq, Int.reduceLT, Int.reduceLE, ↓reduceIte, Nat.reduceEqDiff, Nat.reduceAdd, Int.reduceToNat, reduceCtorEq, Nat.reduceLeDiff, ↓u_ref9_Reach, hg, ndT_is]
                    exact Rnd_keep (l.length - (i + 1)) (by omega) (by simp) hfin
            · have hi2 : i = l.length := by omega
              simp -dsimp (disch := first | assumption | omega) only [↓vmPre, vmPost, vmWrd, vmDat, eq_self, forall_const, Nat.reduceLT, Nat.reduceEqDiff, Nat.reduceSub, Nat.reduceMul, Nat.reduceMod, Nat.reduceDiv, Nat.reducePow, UInt8.reduceToNat, Int.reduceEq, Int.reduceLT, Int.reduceLE, ↓reduceIte, Nat.reduceEqDiff, Nat.reduceAdd, Int.reduceToNat, reduceCtorEq, Nat.reduceLeDiff, ↓u_ref9_Reach]
              refine Rnd_keep (unm m' + (if again then 1 else 0)) (by omega) (by simp) ⟨again, m', rfl, hm, hb, fun ha k hk => hc ha k hk (by omega), rfl, rfl⟩
end Go.Proofs.YtknphdcjopaaoaaDoor
