/- The document's own Apply, as the machine of values has it. -/
import Derived.Test.YtknphdcjopaaoaaDoorVdDelta
namespace Go.Proofs.YtknphdcjopaaoaaDoor
open Go.RowKit
set_option linter.unusedVariables false
set_option linter.unusedSimpArgs false

theorem szs_len {b : List UInt8} {n m : Nat} {r : List UInt8} (h : szs b = some (n, m, r)) : r.length ≤ b.length := by
  unfold szs at h
  split at h
  · cases h
  · split at h
    · cases h
    · simp only [Option.some.injEq, Prod.mk.injEq] at h
      obtain ⟨_, _, rfl⟩ := h
      exact Nat.le_trans (szG_len _ _ _ _ _) (szG_len _ _ _ _ _)
/-- The document's Apply: what is made, or no. -/
def RefApplyR (base d : List UInt8) (x : TV) : Prop := match dApply base d with
  | none => ∃ y, x = .tup [y, tb false] ∧ isTup y = false
  | some out => x = .tup [slB out, tb true]
theorem RefApplyR.none {base d : List UInt8} {y : TV} (h : dApply base d = none) (hy : isTup y = false) : RefApplyR base d (.tup [y, tb false]) := by rw [RefApplyR, h]; exact ⟨y, rfl, hy⟩

theorem refApply (base d : List UInt8) (hl : d.length ≤ 1000000) (hb : base.length ≤ 1000000) : VPure Tryd.prog 21 [slB base, slB d] (RefApplyR base d) := by
  refine VCalls.toPureV (go_ref4_Apply (by simp) ?_)
  simp -dsimp (disch := first | assumption | omega) only [↓vmPre, vmPost, vmWrd, vmDat, eq_self, forall_const, Nat.reduceLT, Nat.reduceEqDiff, Nat.reduceSub, Nat.reduceMul, Nat.reduceMod, Nat.reduceDiv, Nat.reducePow, UInt8.reduceToNat, Int.reduceEq, Int.reduceLT, Int.reduceLE, ↓reduceIte, Nat.reduceEqDiff, Nat.reduceAdd, Int.reduceToNat, reduceCtorEq, Nat.reduceLeDiff, ↓u_ref4_Apply]
  refine (refSizes d hl).calls rfl ?_
  intro x hx
  unfold SzsIs at hx
  cases hs : szs d with
  | none =>
    rw [hs] at hx; subst hx
    simp -dsimp (disch := first | assumption | omega) only [↓vmPre, vmPost, vmWrd, vmDat, eq_self, forall_const, Nat.reduceLT, Nat.reduceEqDiff, Nat.reduceSub, Nat.reduceMul, Nat.reduceMod, Nat.reduceDiv, Nat.reducePow, UInt8.reduceToNat, Int.reduceEq, Int.reduceLT, Int.reduceLE, ↓reduceIte, Nat.reduceEqDiff, Nat.reduceAdd, Int.reduceToNat, reduceCtorEq, Nat.reduceLeDiff, ↓u_ref4_Apply]
    exact RefApplyR.none (by simp [dApply, hs]) rfl
  | some q =>
    obtain ⟨n, m, r⟩ := q
    have hrl := szs_len hs
    rw [hs] at hx; subst hx
    simp -dsimp (disch := first | assumption | omega) only [↓vmPre, vmPost, vmWrd, vmDat, eq_self, forall_const, Nat.reduceLT, Nat.reduceEqDiff, Nat.reduceSub, Nat.reduceMul, Nat.reduceMod, Nat.reduceDiv, Nat.reducePow, UInt8.reduceToNat, Int.reduceEq, Int.reduceLT, Int.reduceLE, ↓reduceIte, Nat.reduceEqDiff, Nat.reduceAdd, Int.reduceToNat, reduceCtorEq, Nat.reduceLeDiff, ↓u_ref4_Apply]
    refine vif_cases (fun hn => ?_) (fun hn => ?_)
    case refine_2 =>
      simp -dsimp (disch := first | assumption | omega) only [↓vmPre, vmPost, vmWrd, vmDat, eq_self, forall_const, Nat.reduceLT, Nat.reduceEqDiff, Nat.reduceSub, Nat.reduceMul, Nat.reduceMod, Nat.reduceDiv, Nat.reducePow, UInt8.reduceToNat, Int.reduceEq, Int.reduceLT, Int.reduceLE, ↓reduceIte, Nat.reduceEqDiff, Nat.reduceAdd, Int.reduceToNat, reduceCtorEq, Nat.reduceLeDiff, ↓u_ref4_Apply]
      exact RefApplyR.none (by simp [dApply, hs, hn]) rfl
    simp -dsimp (disch := first | assumption | omega) only [↓vmPre, vmPost, vmWrd, vmDat, eq_self, forall_const, Nat.reduceLT, Nat.reduceEqDiff, Nat.reduceSub, Nat.reduceMul, Nat.reduceMod, Nat.reduceDiv, Nat.reducePow, UInt8.reduceToNat, Int.reduceEq, Int.reduceLT, Int.reduceLE, ↓reduceIte, Nat.reduceEqDiff, Nat.reduceAdd, Int.reduceToNat, reduceCtorEq, Nat.reduceLeDiff, ↓u_ref4_Apply]
    refine vif_cases (fun hm => ?_) (fun hm => ?_)
    case refine_1 =>
      simp -dsimp (disch := first | assumption | omega) only [↓vmPre, vmPost, vmWrd, vmDat, eq_self, forall_const, Nat.reduceLT, Nat.reduceEqDiff, Nat.reduceSub, Nat.reduceMul, Nat.reduceMod, Nat.reduceDiv, Nat.reducePow, UInt8.reduceToNat, Int.reduceEq, Int.reduceLT, Int.reduceLE, ↓reduceIte, Nat.reduceEqDiff, Nat.reduceAdd, Int.reduceToNat, reduceCtorEq, Nat.reduceLeDiff, ↓u_ref4_Apply]
      exact RefApplyR.none (by simp [dApply, hs, hn, show ¬ m ≤ 100000 from by omega]) rfl
    simp -dsimp (disch := first | assumption | omega) only [↓vmPre, vmPost, vmWrd, vmDat, eq_self, forall_const, Nat.reduceLT, Nat.reduceEqDiff, Nat.reduceSub, Nat.reduceMul, Nat.reduceMod, Nat.reduceDiv, Nat.reducePow, UInt8.reduceToNat, Int.reduceEq, Int.reduceLT, Int.reduceLE, ↓reduceIte, Nat.reduceEqDiff, Nat.reduceAdd, Int.reduceToNat, reduceCtorEq, Nat.reduceLeDiff, ↓u_ref4_Apply]
    have hfin : dApply base d = dRun base m r.length [] r := by simp [dApply, hs, hn, show m ≤ 100000 from by omega]
    refine w_loop (fun k e H => ∃ (ver N cp : Nat) (cs : List TV) (out r' : List UInt8), k = r'.length ∧ r'.length ≤ 1000000 ∧ out.length ≤ m ∧ cs.take out.length = out.map by8 ∧ out.length ≤ cs.length ∧ dRun base m r'.length out r' = dApply base d ∧
      e = [(0, slB base), (7, i64 m), (8, slB r'), (10, .os 1 0 ver [] 0 out.length cp)] ∧ H = [.obj ver (.arr N 1 cs)]) r.length ?_ ?_
    · exact ⟨0, 0, 0, _, [], r, rfl, by omega, by simp, rfl, by simp, hfin.symm, rfl, rfl⟩
    · rintro k e H ⟨ver, N, cp, cs, out, r', rfl, hr', hout, hcs, hcl, hrun, rfl, rfl⟩
      cases r' with
      | nil =>
        have hd : dApply base d = if out.length = m then some out else none := by rw [← hrun]; rfl
        simp -dsimp (disch := first | assumption | omega) only [↓vmPre, vmPost, vmWrd, vmDat, eq_self, forall_const, Nat.reduceLT, Nat.reduceEqDiff, Nat.reduceSub, Nat.reduceMul, Nat.reduceMod, Nat.reduceDiv, Nat.reducePow, UInt8.reduceToNat, Int.reduceEq, Int.reduceLT, Int.reduceLE, ↓reduceIte, Nat.reduceEqDiff, Nat.reduceAdd, Int.reduceToNat, reduceCtorEq, Nat.reduceLeDiff, ↓u_ref4_Apply, hcs]
        by_cases hm : out.length = m
        · rw [RefApplyR, hd, if_pos hm, decide_eq_true hm]
        · rw [decide_eq_false hm]
          exact RefApplyR.none (by rw [hd, if_neg hm]) rfl
      | cons b r' =>
        have hb := b.toNat_lt
        simp only [List.length_cons] at hr'
        rw [List.length_cons, dRun] at hrun
        have hd : dStep base m out b r' = none → dApply base d = none := fun h => by rw [← hrun, h]
        simp -dsimp (disch := first | assumption | omega) only [↓vmPre, vmPost, vmWrd, vmDat, eq_self, forall_const, Nat.reduceLT, Nat.reduceEqDiff, Nat.reduceSub, Nat.reduceMul, Nat.reduceMod, Nat.reduceDiv, Nat.reducePow, UInt8.reduceToNat, Int.reduceEq, Int.reduceLT, Int.reduceLE, ↓reduceIte, Nat.reduceEqDiff, Nat.reduceAdd, Int.reduceToNat, reduceCtorEq, Nat.reduceLeDiff, ↓u_ref4_Apply]
        refine vif_cases (fun h0 => ?_) (fun h0 => ?_)
        · simp -dsimp (disch := first | assumption | omega) only [↓vmPre, vmPost, vmWrd, vmDat, eq_self, forall_const, Nat.reduceLT, Nat.reduceEqDiff, Nat.reduceSub, Nat.reduceMul, Nat.reduceMod, Nat.reduceDiv, Nat.reducePow, UInt8.reduceToNat, Int.reduceEq, Int.reduceLT, Int.reduceLE, ↓reduceIte, Nat.reduceEqDiff, Nat.reduceAdd, Int.reduceToNat, reduceCtorEq, Nat.reduceLeDiff, ↓u_ref4_Apply]
          exact RefApplyR.none (hd (by simp [dStep, h0])) rfl
        by_cases h128 : b.toNat < 128
        · simp -dsimp (disch := first | assumption | omega) only [↓vmPre, vmPost, vmWrd, vmDat, eq_self, forall_const, Nat.reduceLT, Nat.reduceEqDiff, Nat.reduceSub, Nat.reduceMul, Nat.reduceMod, Nat.reduceDiv, Nat.reducePow, UInt8.reduceToNat, Int.reduceEq, Int.reduceLT, Int.reduceLE, ↓reduceIte, Nat.reduceEqDiff, Nat.reduceAdd, Int.reduceToNat, reduceCtorEq, Nat.reduceLeDiff, ↓u_ref4_Apply]
          refine vif_cases (fun hr => ?_) (fun hr => ?_)
          · simp -dsimp (disch := first | assumption | omega) only [↓vmPre, vmPost, vmWrd, vmDat, eq_self, forall_const, Nat.reduceLT, Nat.reduceEqDiff, Nat.reduceSub, Nat.reduceMul, Nat.reduceMod, Nat.reduceDiv, Nat.reducePow, UInt8.reduceToNat, Int.reduceEq, Int.reduceLT, Int.reduceLE, ↓reduceIte, Nat.reduceEqDiff, Nat.reduceAdd, Int.reduceToNat, reduceCtorEq, Nat.reduceLeDiff, ↓u_ref4_Apply]
            exact RefApplyR.none (hd (by rw [dStep, if_neg h0, if_pos h128, if_neg (by omega)])) rfl
          · simp -dsimp (disch := first | assumption | omega) only [↓vmPre, vmPost, vmWrd, vmDat, eq_self, forall_const, Nat.reduceLT, Nat.reduceEqDiff, Nat.reduceSub, Nat.reduceMul, Nat.reduceMod, Nat.reduceDiv, Nat.reducePow, UInt8.reduceToNat, Int.reduceEq, Int.reduceLT, Int.reduceLE, ↓reduceIte, Nat.reduceEqDiff, Nat.reduceAdd, Int.reduceToNat, reduceCtorEq, Nat.reduceLeDiff, ↓u_ref4_Apply]
            refine vif_cases (fun hm2 => ?_) (fun hm2 => ?_)
            · simp -dsimp (disch := first | assumption | omega) only [↓vmPre, vmPost, vmWrd, vmDat, eq_self, forall_const, Nat.reduceLT, Nat.reduceEqDiff, Nat.reduceSub, Nat.reduceMul, Nat.reduceMod, Nat.reduceDiv, Nat.reducePow, UInt8.reduceToNat, Int.reduceEq, Int.reduceLT, Int.reduceLE, ↓reduceIte, Nat.reduceEqDiff, Nat.reduceAdd, Int.reduceToNat, reduceCtorEq, Nat.reduceLeDiff, ↓u_ref4_Apply]
              exact RefApplyR.none (hd (by rw [dStep, if_neg h0, if_pos h128, if_neg (by omega)])) rfl
            · have hs : dStep base m out b r' = some (out ++ r'.take b.toNat, r'.drop b.toNat) := by rw [dStep, if_neg h0, if_pos h128, if_pos (by omega)]
              rw [hs] at hrun
              simp -dsimp (disch := first | assumption | omega) only [↓vmPre, vmPost, vmWrd, vmDat, eq_self, forall_const, Nat.reduceLT, Nat.reduceEqDiff, Nat.reduceSub, Nat.reduceMul, Nat.reduceMod, Nat.reduceDiv, Nat.reducePow, UInt8.reduceToNat, Int.reduceEq, Int.reduceLT, Int.reduceLE, ↓reduceIte, Nat.reduceEqDiff, Nat.reduceAdd, Int.reduceToNat, reduceCtorEq, Nat.reduceLeDiff, ↓u_ref4_Apply]
              have hlen : (out ++ r'.take b.toNat).length = out.length + b.toNat := by simp; omega
              refine Rnd_keep (r'.length - b.toNat) (by omega) (by simp) ⟨ver + 1, out.length + b.toNat, out.length + b.toNat, (out ++ r'.take b.toNat).map by8, out ++ r'.take b.toNat, r'.drop b.toNat, by simp, by simp; omega, by omega, by rw [List.take_of_length_le (by simp)], by simp, ?_, ?_, ?_⟩
              · rw [← hrun]; exact dRun_fuel _ _ _ _ (by simp) (by simp)
              · rw [hlen]; rfl
              · rw [List.map_append, ← hcs]
        · simp -dsimp (disch := first | assumption | omega) only [↓vmPre, vmPost, vmWrd, vmDat, eq_self, forall_const, Nat.reduceLT, Nat.reduceEqDiff, Nat.reduceSub, Nat.reduceMul, Nat.reduceMod, Nat.reduceDiv, Nat.reducePow, UInt8.reduceToNat, Int.reduceEq, Int.reduceLT, Int.reduceLE, ↓reduceIte, Nat.reduceEqDiff, Nat.reduceAdd, Int.reduceToNat, reduceCtorEq, Nat.reduceLeDiff, ↓u_ref4_Apply]
          refine (refPart r' b.toNat 0 3 (by omega) (by omega) (by omega) (by omega) (by omega)).calls rfl ?_
          rintro x ⟨a, r1, ok1, rfl, hr1, ha, h1, h2⟩
          simp -dsimp (disch := first | assumption | omega) only [↓vmPre, vmPost, vmWrd, vmDat, eq_self, forall_const, Nat.reduceLT, Nat.reduceEqDiff, Nat.reduceSub, Nat.reduceMul, Nat.reduceMod, Nat.reduceDiv, Nat.reducePow, UInt8.reduceToNat, Int.reduceEq, Int.reduceLT, Int.reduceLE, ↓reduceIte, Nat.reduceEqDiff, Nat.reduceAdd, Int.reduceToNat, reduceCtorEq, Nat.reduceLeDiff, ↓u_ref4_Apply]
          refine (refPart r1 b.toNat 4 6 (by omega) (by omega) (by omega) (by omega) (by omega)).calls rfl ?_
          rintro x ⟨n2, r2, ok2, rfl, hr2, hn2, h3, h4⟩
          have hs : dStep base m out b r' = match nbG 4 (b.toNat % 16) 0 0 r' false with
            | (a, r1, bad1) => match nbG 4 (b.toNat / 16 % 8) 0 0 r1 bad1 with
              | (n, r2, bad2) => if bad2 = false ∧ a + (if n = 0 then 65536 else n) ≤ base.length ∧ out.length + (if n = 0 then 65536 else n) ≤ m then
                  some (out ++ (base.drop a).take (if n = 0 then 65536 else n), r2) else none := by rw [dStep, if_neg h0, if_neg h128]
          have e1 : nbG 4 (b.toNat % 16) 0 0 r' false = nbG (3 + 1 - 0) (b.toNat / 2 ^ 0) 0 0 r' false := by
            rw [show b.toNat / 2 ^ 0 = b.toNat from by simp]; exact nbG_mod 4 _ _ _ _ _
          have e2 : ∀ bad, nbG 4 (b.toNat / 16 % 8) 0 0 r1 bad = nbG (6 + 1 - 4) (b.toNat / 2 ^ 4) 0 0 r1 bad := fun bad => by
            rw [nbG_more 3 _ _ _ _ _ (by omega)]; exact nbG_mod 3 _ _ _ _ _
          rw [e1] at hs
          cases ok1 with
          | false =>
            have h2 := h2 rfl
            have hn : dStep base m out b r' = none := by
              rw [hs]
              generalize nbG (3 + 1 - 0) (b.toNat / 2 ^ 0) 0 0 r' false = g at h2 ⊢
              obtain ⟨a', r1', bad1⟩ := g
              simp only at h2 ⊢
              subst h2
              have hb2 := nbG_bad 4 (b.toNat / 16 % 8) 0 0 r1'
              generalize nbG 4 (b.toNat / 16 % 8) 0 0 r1' true = g at hb2 ⊢
              obtain ⟨n', r2', bad2⟩ := g
              simp only at hb2 ⊢
              subst hb2
              simp
            simp -dsimp (disch := first | assumption | omega) only [↓vmPre, vmPost, vmWrd, vmDat, eq_self, forall_const, Nat.reduceLT, Nat.reduceEqDiff, Nat.reduceSub, Nat.reduceMul, Nat.reduceMod, Nat.reduceDiv, Nat.reducePow, UInt8.reduceToNat, Int.reduceEq, Int.reduceLT, Int.reduceLE, ↓reduceIte, Nat.reduceEqDiff, Nat.reduceAdd, Int.reduceToNat, reduceCtorEq, Nat.reduceLeDiff, ↓u_ref4_Apply]
            exact RefApplyR.none (hd hn) rfl
          | true =>
            rw [h1 rfl] at hs
            simp only [e2] at hs
            have hk1 := nbG_len 4 (b.toNat % 16) 0 0 r' false
            rw [e1, h1 rfl] at hk1
            simp only at hk1
            have hk2 := nbG_len (6 + 1 - 4) (b.toNat / 2 ^ 4) 0 0 r1 false
            cases ok2 with
            | false =>
              have h4 := h4 rfl
              have hn : dStep base m out b r' = none := by
                rw [hs]
                generalize nbG (6 + 1 - 4) (b.toNat / 2 ^ 4) 0 0 r1 false = g at h4 ⊢
                obtain ⟨n', r2', bad2⟩ := g
                simp only at h4 ⊢
                subst h4
                simp
              simp -dsimp (disch := first | assumption | omega) only [↓vmPre, vmPost, vmWrd, vmDat, eq_self, forall_const, Nat.reduceLT, Nat.reduceEqDiff, Nat.reduceSub, Nat.reduceMul, Nat.reduceMod, Nat.reduceDiv, Nat.reducePow, UInt8.reduceToNat, Int.reduceEq, Int.reduceLT, Int.reduceLE, ↓reduceIte, Nat.reduceEqDiff, Nat.reduceAdd, Int.reduceToNat, reduceCtorEq, Nat.reduceLeDiff, ↓u_ref4_Apply]
              exact RefApplyR.none (hd hn) rfl
            | true =>
              rw [h3 rfl] at hs hk2
              simp only [true_and] at hs hk2
              simp -dsimp (disch := first | assumption | omega) only [↓vmPre, vmPost, vmWrd, vmDat, eq_self, forall_const, Nat.reduceLT, Nat.reduceEqDiff, Nat.reduceSub, Nat.reduceMul, Nat.reduceMod, Nat.reduceDiv, Nat.reducePow, UInt8.reduceToNat, Int.reduceEq, Int.reduceLT, Int.reduceLE, ↓reduceIte, Nat.reduceEqDiff, Nat.reduceAdd, Int.reduceToNat, reduceCtorEq, Nat.reduceLeDiff, ↓u_ref4_Apply]
              obtain ⟨sz, hsz⟩ : ∃ sz, sz = if n2 = 0 then 65536 else n2 := ⟨_, rfl⟩
              rw [← hsz] at hs
              refine vif_cases (fun hz => ?_) (fun hz => ?_)
              ·
                rw [if_pos hz] at hsz
                simp -dsimp (disch := first | assumption | omega) only [↓vmPre, vmPost, vmWrd, vmDat, eq_self, forall_const, Nat.reduceLT, Nat.reduceEqDiff, Nat.reduceSub, Nat.reduceMul, Nat.reduceMod, Nat.reduceDiv, Nat.reducePow, UInt8.reduceToNat, Int.reduceEq, Int.reduceLT, Int.reduceLE, ↓reduceIte, Nat.reduceEqDiff, Nat.reduceAdd, Int.reduceToNat, reduceCtorEq, Nat.reduceLeDiff, ↓u_ref4_Apply]
                refine vif_cases (fun hr => ?_) (fun hr => ?_)
                · simp -dsimp (disch := first | assumption | omega) only [↓vmPre, vmPost, vmWrd, vmDat, eq_self, forall_const, Nat.reduceLT, Nat.reduceEqDiff, Nat.reduceSub, Nat.reduceMul, Nat.reduceMod, Nat.reduceDiv, Nat.reducePow, UInt8.reduceToNat, Int.reduceEq, Int.reduceLT, Int.reduceLE, ↓reduceIte, Nat.reduceEqDiff, Nat.reduceAdd, Int.reduceToNat, reduceCtorEq, Nat.reduceLeDiff, ↓u_ref4_Apply]
                  exact RefApplyR.none (hd (by rw [hs, if_neg (by omega)])) rfl
                · simp -dsimp (disch := first | assumption | omega) only [↓vmPre, vmPost, vmWrd, vmDat, eq_self, forall_const, Nat.reduceLT, Nat.reduceEqDiff, Nat.reduceSub, Nat.reduceMul, Nat.reduceMod, Nat.reduceDiv, Nat.reducePow, UInt8.reduceToNat, Int.reduceEq, Int.reduceLT, Int.reduceLE, ↓reduceIte, Nat.reduceEqDiff, Nat.reduceAdd, Int.reduceToNat, reduceCtorEq, Nat.reduceLeDiff, ↓u_ref4_Apply]
                  refine vif_cases (fun hm2 => ?_) (fun hm2 => ?_)
                  · simp -dsimp (disch := first | assumption | omega) only [↓vmPre, vmPost, vmWrd, vmDat, eq_self, forall_const, Nat.reduceLT, Nat.reduceEqDiff, Nat.reduceSub, Nat.reduceMul, Nat.reduceMod, Nat.reduceDiv, Nat.reducePow, UInt8.reduceToNat, Int.reduceEq, Int.reduceLT, Int.reduceLE, ↓reduceIte, Nat.reduceEqDiff, Nat.reduceAdd, Int.reduceToNat, reduceCtorEq, Nat.reduceLeDiff, ↓u_ref4_Apply]
                    exact RefApplyR.none (hd (by rw [hs, if_neg (by omega)])) rfl
                  · rw [if_pos (by omega)] at hs
                    rw [hs] at hrun
                    have hl2 : (base.drop a).length = base.length - a := by simp
                    subst hsz
                    simp -dsimp (disch := first | assumption | omega) only [↓vmPre, vmPost, vmWrd, vmDat, eq_self, forall_const, Nat.reduceLT, Nat.reduceEqDiff, Nat.reduceSub, Nat.reduceMul, Nat.reduceMod, Nat.reduceDiv, Nat.reducePow, UInt8.reduceToNat, Int.reduceEq, Int.reduceLT, Int.reduceLE, ↓reduceIte, Nat.reduceEqDiff, Nat.reduceAdd, Int.reduceToNat, reduceCtorEq, Nat.reduceLeDiff, ↓u_ref4_Apply, hl2]
                    have hlen : (out ++ (base.drop a).take 65536).length = out.length + 65536 := by simp; omega
                    refine Rnd_keep r2.length (by omega) (by simp) ⟨ver + 1, out.length + 65536, out.length + 65536, (out ++ (base.drop a).take 65536).map by8, out ++ (base.drop a).take 65536, r2, rfl, by omega, by omega, by rw [List.take_of_length_le (by simp)], by simp, ?_, ?_, ?_⟩
                    · rw [← hrun]; exact dRun_fuel _ _ _ _ (by simp) (by omega)
                    · rw [hlen]; rfl
                    · rw [List.map_append, ← hcs]
              ·
                rw [if_neg hz] at hsz
                simp -dsimp (disch := first | assumption | omega) only [↓vmPre, vmPost, vmWrd, vmDat, eq_self, forall_const, Nat.reduceLT, Nat.reduceEqDiff, Nat.reduceSub, Nat.reduceMul, Nat.reduceMod, Nat.reduceDiv, Nat.reducePow, UInt8.reduceToNat, Int.reduceEq, Int.reduceLT, Int.reduceLE, ↓reduceIte, Nat.reduceEqDiff, Nat.reduceAdd, Int.reduceToNat, reduceCtorEq, Nat.reduceLeDiff, ↓u_ref4_Apply]
                refine vif_cases (fun hr => ?_) (fun hr => ?_)
                · simp -dsimp (disch := first | assumption | omega) only [↓vmPre, vmPost, vmWrd, vmDat, eq_self, forall_const, Nat.reduceLT, Nat.reduceEqDiff, Nat.reduceSub, Nat.reduceMul, Nat.reduceMod, Nat.reduceDiv, Nat.reducePow, UInt8.reduceToNat, Int.reduceEq, Int.reduceLT, Int.reduceLE, ↓reduceIte, Nat.reduceEqDiff, Nat.reduceAdd, Int.reduceToNat, reduceCtorEq, Nat.reduceLeDiff, ↓u_ref4_Apply]
                  exact RefApplyR.none (hd (by rw [hs, if_neg (by omega)])) rfl
                · simp -dsimp (disch := first | assumption | omega) only [↓vmPre, vmPost, vmWrd, vmDat, eq_self, forall_const, Nat.reduceLT, Nat.reduceEqDiff, Nat.reduceSub, Nat.reduceMul, Nat.reduceMod, Nat.reduceDiv, Nat.reducePow, UInt8.reduceToNat, Int.reduceEq, Int.reduceLT, Int.reduceLE, ↓reduceIte, Nat.reduceEqDiff, Nat.reduceAdd, Int.reduceToNat, reduceCtorEq, Nat.reduceLeDiff, ↓u_ref4_Apply]
                  refine vif_cases (fun hm2 => ?_) (fun hm2 => ?_)
                  · simp -dsimp (disch := first | assumption | omega) only [↓vmPre, vmPost, vmWrd, vmDat, eq_self, forall_const, Nat.reduceLT, Nat.reduceEqDiff, Nat.reduceSub, Nat.reduceMul, Nat.reduceMod, Nat.reduceDiv, Nat.reducePow, UInt8.reduceToNat, Int.reduceEq, Int.reduceLT, Int.reduceLE, ↓reduceIte, Nat.reduceEqDiff, Nat.reduceAdd, Int.reduceToNat, reduceCtorEq, Nat.reduceLeDiff, ↓u_ref4_Apply]
                    exact RefApplyR.none (hd (by rw [hs, if_neg (by omega)])) rfl
                  · rw [if_pos (by omega)] at hs
                    rw [hs] at hrun
                    have hl2 : (base.drop a).length = base.length - a := by simp
                    subst hsz
                    simp -dsimp (disch := first | assumption | omega) only [↓vmPre, vmPost, vmWrd, vmDat, eq_self, forall_const, Nat.reduceLT, Nat.reduceEqDiff, Nat.reduceSub, Nat.reduceMul, Nat.reduceMod, Nat.reduceDiv, Nat.reducePow, UInt8.reduceToNat, Int.reduceEq, Int.reduceLT, Int.reduceLE, ↓reduceIte, Nat.reduceEqDiff, Nat.reduceAdd, Int.reduceToNat, reduceCtorEq, Nat.reduceLeDiff, ↓u_ref4_Apply, hl2]
                    have hlen : (out ++ (base.drop a).take sz).length = out.length + sz := by simp; omega
                    refine Rnd_keep r2.length (by omega) (by simp) ⟨ver + 1, out.length + sz, out.length + sz, (out ++ (base.drop a).take sz).map by8, out ++ (base.drop a).take sz, r2, rfl, by omega, by omega, by rw [List.take_of_length_le (by simp)], by simp, ?_, ?_, ?_⟩
                    · rw [← hrun]; exact dRun_fuel _ _ _ _ (by simp) (by omega)
                    · rw [hlen]; rfl
                    · rw [List.map_append, ← hcs]
end Go.Proofs.YtknphdcjopaaoaaDoor
