/- gitlikeref9.Check. -/
import Derived.Test.YtknphdcjopaaoaaDoorVgReach
namespace Go.Proofs.YtknphdcjopaaoaaDoor
open Go.RowKit
set_option linter.unusedVariables false
set_option linter.unusedSimpArgs false

noncomputable def gerr (l : List Nd) : Nat := @ite _ (GOk l) (Classical.propDecidable _) 0 80
theorem gerr_ok {l : List Nd} (h : GOk l) : gerr l = 0 := by unfold gerr; rw [if_pos h]
theorem gerr_no {l : List Nd} (h : ¬ GOk l) : gerr l = 80 := by unfold gerr; rw [if_neg h]
/-- Each is the first one of its id. -/
theorem nodup_of_fnd {l : List Nd} (h : ∀ i (hi : i < l.length), fnd l l[i].id = i) : (idsOf l).Nodup := by
  rw [List.nodup_iff_pairwise_ne, List.pairwise_iff_getElem]
  intro i j hi hj hij e
  rw [idsOf, List.length_map] at hi hj
  simp only [idsOf, List.getElem_map] at e
  have h1 := h i hi
  have h2 := h j hj
  rw [e, h2] at h1
  omega
theorem check9 (l : List Nd) (hl : l.length ≤ 1000) (hp : ∀ n ∈ l, n.ps.length ≤ 1000) : VPure Tryd.prog 11 [.sl 22 (l.map ndT)] (fun r => r = i64 ((gerr l : Nat) : Int)) := by
  refine VCalls.toPureV (go_ref9_Check (by simp) ?_)
  simp -dsimp (disch := first | assumption | omega) only [↓vmPre, vmPost, vmWrd, vmDat, eq_self, forall_const, Nat.reduceLT, Nat.reduceEqDiff, Nat.reduceSub, Nat.reduceMul, Nat.reduceMod, Nat.reduceDiv, Nat.reducePow, UInt8.reduceToNat, Int.reduceEq, Int.reduceLT, Int.reduceLE, ↓reduceIte, Nat.reduceEqDiff, Nat.reduceAdd, Int.reduceToNat, reduceCtorEq, Nat.reduceLeDiff, ↓u_ref9_Check]
  refine w_loop (fun q e H => ∃ i : Nat, q = l.length - i ∧ i ≤ l.length ∧ (∀ k (hk : k < l.length), k < i → fnd l l[k].id = k ∧ ∀ p ∈ l[k].ps, p ∈ idsOf l) ∧ e = [(0, .sl 22 (l.map ndT)), (3, i64 (i : Int))] ∧ H = []) l.length ?_ ?_
  · exact ⟨0, by simp, by simp, fun k _ hk => by omega, rfl, rfl⟩
  · rintro q e H ⟨i, rfl, hi, h0, rfl, rfl⟩
    by_cases h : i < l.length
    · have hg : l[i]? = some l[i] := List.getElem?_eq_getElem h
      have hpi := hp l[i] (List.getElem_mem h)
      simp -dsimp (disch := first | assumption | omega) only [↓vmPre, vmPost, vmWrd, vmDat, eq_self, forall_const, Nat.reduceLT, Nat.reduceEqDiff, Nat.reduceSub, Nat.reduceMul, Nat.reduceMod, Nat.reduceDiv, Nat.reducePow, UInt8.reduceToNat, Int.reduceEq, Int.reduceLT, Int.reduceLE, ↓reduceIte, Nat.reduceEqDiff, Nat.reduceAdd, Int.reduceToNat, reduceCtorEq, Nat.reduceLeDiff, ↓u_ref9_Check, hg, ndT_is]
      refine (find9 l l[i].id (by omega)).calls rfl ?_
      rintro r rfl
      obtain ⟨j, hj, hjf, hje⟩ := fnd_in (mem_ids (List.getElem_mem h))
      by_cases hji : j = i
      · subst hji
        generalize hn : l[j] = n at *
        rw [hjf]
        simp -dsimp (disch := first | assumption | omega) only [↓vmPre, vmPost, vmWrd, vmDat, eq_self, forall_const, Nat.reduceLT, Nat.reduceEqDiff, Nat.reduceSub, Nat.reduceMul, Nat.reduceMod, Nat.reduceDiv, Nat.reducePow, UInt8.reduceToNat, Int.reduceEq, Int.reduceLT, Int.reduceLE, ↓reduceIte, Nat.reduceEqDiff, Nat.reduceAdd, Int.reduceToNat, reduceCtorEq, Nat.reduceLeDiff, ↓u_ref9_Check, hg, ndT_is]
        refine w_loop (fun q e H => ∃ k : Nat, q = n.ps.length - k ∧ k ≤ n.ps.length ∧ (∀ p ∈ n.ps.take k, p ∈ idsOf l) ∧ e = [(0, .sl 22 (l.map ndT)), (3, i64 (j : Int)), (4, i64 (k : Int))] ∧ H = []) n.ps.length ?_ ?_
        · exact ⟨0, by simp, by simp, by simp, rfl, rfl⟩
        · rintro q e H ⟨k, rfl, hk, h1, rfl, rfl⟩
          by_cases h2 : k < n.ps.length
          · have hg2 : n.ps[k]? = some n.ps[k] := List.getElem?_eq_getElem h2
            have hsucc := List.take_succ_eq_append_getElem h2
            have hmem := List.getElem_mem h2
            have hneg := fnd_neg (l := l) (x := n.ps[k])
            generalize n.ps[k] = x at *
            simp -dsimp (disch := first | assumption | omega) only [↓vmPre, vmPost, vmWrd, vmDat, eq_self, forall_const, Nat.reduceLT, Nat.reduceEqDiff, Nat.reduceSub, Nat.reduceMul, Nat.reduceMod, Nat.reduceDiv, Nat.reducePow, UInt8.reduceToNat, Int.reduceEq, Int.reduceLT, Int.reduceLE, ↓reduceIte, Nat.reduceEqDiff, Nat.reduceAdd, Int.reduceToNat, reduceCtorEq, Nat.reduceLeDiff, ↓u_ref9_Check, hg, hg2, ndT_is, isAg_idT, width_idT, isTup_idT]
            refine (find9 l x (by omega)).calls rfl ?_
            rintro r rfl
            by_cases hx : x ∈ idsOf l
            · obtain ⟨m, _, hmf, _⟩ := fnd_in hx
              rw [hmf]
              simp -dsimp (disch := first | assumption | omega) only [↓vmPre, vmPost, vmWrd, vmDat, eq_self, forall_const, Nat.reduceLT, Nat.reduceEqDiff, Nat.reduceSub, Nat.reduceMul, Nat.reduceMod, Nat.reduceDiv, Nat.reducePow, UInt8.reduceToNat, Int.reduceEq, Int.reduceLT, Int.reduceLE, ↓reduceIte, Nat.reduceEqDiff, Nat.reduceAdd, Int.reduceToNat, reduceCtorEq, Nat.reduceLeDiff, ↓u_ref9_Check]
              refine Rnd_keep (n.ps.length - (k + 1)) (by omega) (by simp) ⟨k + 1, rfl, by omega, fun p hp' => ?_, rfl, rfl⟩
              rw [hsucc, List.mem_append, List.mem_singleton] at hp'
              rcases hp' with hp' | rfl
              · exact h1 p hp'
              · exact hx
            · have hfx : fnd l x = -1 := by
                unfold fnd
                rw [if_neg (fun ⟨m, hm, e⟩ => hx (e ▸ mem_ids hm))]
              rw [hfx, gerr_no fun hok => hx (hok.1.there n (hn ▸ List.getElem_mem h) x hmem)]
              simp -dsimp (disch := first | assumption | omega) only [↓vmPre, vmPost, vmWrd, vmDat, eq_self, forall_const, Nat.reduceLT, Nat.reduceEqDiff, Nat.reduceSub, Nat.reduceMul, Nat.reduceMod, Nat.reduceDiv, Nat.reducePow, UInt8.reduceToNat, Int.reduceEq, Int.reduceLT, Int.reduceLE, ↓reduceIte, Nat.reduceEqDiff, Nat.reduceAdd, Int.reduceToNat, reduceCtorEq, Nat.reduceLeDiff, ↓u_ref9_Check]
          · have hk2 : k = n.ps.length := by omega
            rw [hk2, List.take_length] at h1
            simp -dsimp (disch := first | assumption | omega) only [↓vmPre, vmPost, vmWrd, vmDat, eq_self, forall_const, Nat.reduceLT, Nat.reduceEqDiff, Nat.reduceSub, Nat.reduceMul, Nat.reduceMod, Nat.reduceDiv, Nat.reducePow, UInt8.reduceToNat, Int.reduceEq, Int.reduceLT, Int.reduceLE, ↓reduceIte, Nat.reduceEqDiff, Nat.reduceAdd, Int.reduceToNat, reduceCtorEq, Nat.reduceLeDiff, ↓u_ref9_Check, hg, ndT_is]
            refine Rnd_keep (l.length - (j + 1)) (by omega) (by simp) ⟨j + 1, rfl, by omega, fun k' hk' hkj => ?_, rfl, rfl⟩
            by_cases e : k' = j
            · subst e; rw [hn]; exact ⟨hjf, h1⟩
            · exact h0 k' hk' (by omega)
      · rw [hjf, gerr_no fun hok => hji (by have := fnd_id hok.1.nodup h; rw [hjf] at this; omega)]
        simp -dsimp (disch := first | assumption | omega) only [↓vmPre, vmPost, vmWrd, vmDat, eq_self, forall_const, Nat.reduceLT, Nat.reduceEqDiff, Nat.reduceSub, Nat.reduceMul, Nat.reduceMod, Nat.reduceDiv, Nat.reducePow, UInt8.reduceToNat, Int.reduceEq, Int.reduceLT, Int.reduceLE, ↓reduceIte, Nat.reduceEqDiff, Nat.reduceAdd, Int.reduceToNat, reduceCtorEq, Nat.reduceLeDiff, ↓u_ref9_Check]
    · have hv : Valid l := ⟨nodup_of_fnd fun k hk => (h0 k hk (by omega)).1, fun n hn p hp' => by
        obtain ⟨k, hk, rfl⟩ := List.mem_iff_getElem.1 hn
        exact (h0 k hk (by omega)).2 p hp'⟩
      simp -dsimp (disch := first | assumption | omega) only [↓vmPre, vmPost, vmWrd, vmDat, eq_self, forall_const, Nat.reduceLT, Nat.reduceEqDiff, Nat.reduceSub, Nat.reduceMul, Nat.reduceMod, Nat.reduceDiv, Nat.reducePow, UInt8.reduceToNat, Int.reduceEq, Int.reduceLT, Int.reduceLE, ↓reduceIte, Nat.reduceEqDiff, Nat.reduceAdd, Int.reduceToNat, reduceCtorEq, Nat.reduceLeDiff, ↓u_ref9_Check]
      refine w_loop (fun q e H => ∃ i : Nat, q = l.length - i ∧ i ≤ l.length ∧ (∀ k (hk : k < l.length), k < i → ¬ Rc l l[k].ps l[k].id) ∧ e = [(0, .sl 22 (l.map ndT)), (6, i64 (i : Int))] ∧ H = []) l.length ?_ ?_
      · exact ⟨0, by simp, by simp, fun k _ hk => by omega, rfl, rfl⟩
      · clear h0 h hi
        rintro q e H ⟨i, rfl, hi, h0, rfl, rfl⟩
        by_cases h : i < l.length
        · have hg : l[i]? = some l[i] := List.getElem?_eq_getElem h
          have hpi := hp l[i] (List.getElem_mem h)
          have hmem := List.getElem_mem h
          simp -dsimp (disch := first | assumption | omega) only [↓vmPre, vmPost, vmWrd, vmDat, eq_self, forall_const, Nat.reduceLT, Nat.reduceEqDiff, Nat.reduceSub, Nat.reduceMul, Nat.reduceMod, Nat.reduceDiv, Nat.reducePow, UInt8.reduceToNat, Int.reduceEq, Int.reduceLT, Int.reduceLE, ↓reduceIte, Nat.reduceEqDiff, Nat.reduceAdd, Int.reduceToNat, reduceCtorEq, Nat.reduceLeDiff, ↓u_ref9_Check, hg, ndT_is]
          refine (reachV l l[i].ps hv hl (hv.there _ hmem) (fun n hn => by have := hp n hn; omega) (by omega)).calls rfl ?_
          rintro r rfl
          have hget := reachM_get (l := l) (S := l[i].ps) h
          have hrl : (reachM l l[i].ps).length = l.length := reachM_len
          by_cases hr : Rc l l[i].ps l[i].id
          · rw [gerr_no fun hok => hok.2 ⟨_, hmem, hr⟩]
            have hm := hget.2 hr
            simp -dsimp (disch := first | assumption | omega) only [↓vmPre, vmPost, vmWrd, vmDat, eq_self, forall_const, Nat.reduceLT, Nat.reduceEqDiff, Nat.reduceSub, Nat.reduceMul, Nat.reduceMod, Nat.reduceDiv, Nat.reducePow, UInt8.reduceToNat, Int.reduceEq, Int.reduceLT, Int.reduceLE, ↓reduceIte, Nat.reduceEqDiff, Nat.reduceAdd, Int.reduceToNat, reduceCtorEq, Nat.reduceLeDiff, ↓u_ref9_Check, hm]
          · have hm : (reachM l l[i].ps)[i]? = some false := by
              have h1 : (reachM l l[i].ps)[i]? = some (reachM l l[i].ps)[i] := List.getElem?_eq_getElem (by omega)
              cases hb : (reachM l l[i].ps)[i] with
              | false => rw [h1, hb]
              | true => exact absurd (hget.1 (by rw [h1, hb])) hr
            simp -dsimp (disch := first | assumption | omega) only [↓vmPre, vmPost, vmWrd, vmDat, eq_self, forall_const, Nat.reduceLT, Nat.reduceEqDiff, Nat.reduceSub, Nat.reduceMul, Nat.reduceMod, Nat.reduceDiv, Nat.reducePow, UInt8.reduceToNat, Int.reduceEq, Int.reduceLT, Int.reduceLE, ↓reduceIte, Nat.reduceEqDiff, Nat.reduceAdd, Int.reduceToNat, reduceCtorEq, Nat.reduceLeDiff, ↓u_ref9_Check, hm]
            refine Rnd_keep (l.length - (i + 1)) (by omega) (by simp) ⟨i + 1, rfl, by omega, fun k hk hki => ?_, rfl, rfl⟩
            by_cases e : k = i
            · subst e; exact hr
            · exact h0 k hk (by omega)
        · rw [gerr_ok ⟨hv, fun ⟨n, hn, hr⟩ => by
            obtain ⟨k, hk, rfl⟩ := List.mem_iff_getElem.1 hn
            exact h0 k hk (by omega) hr⟩]
          simp -dsimp (disch := first | assumption | omega) only [↓vmPre, vmPost, vmWrd, vmDat, eq_self, forall_const, Nat.reduceLT, Nat.reduceEqDiff, Nat.reduceSub, Nat.reduceMul, Nat.reduceMod, Nat.reduceDiv, Nat.reducePow, UInt8.reduceToNat, Int.reduceEq, Int.reduceLT, Int.reduceLE, ↓reduceIte, Nat.reduceEqDiff, Nat.reduceAdd, Int.reduceToNat, reduceCtorEq, Nat.reduceLeDiff, ↓u_ref9_Check]
end Go.Proofs.YtknphdcjopaaoaaDoor
