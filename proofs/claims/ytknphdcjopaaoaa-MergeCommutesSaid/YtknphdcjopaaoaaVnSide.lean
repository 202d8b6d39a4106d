/- merge.newSide. -/
import Derived.Test.YtknphdcjopaaoaaVnPlain
import Derived.Test.YtknphdcjopaaoaaVbAny
import Derived.Test.YtknphdcjopaaoaaVdHelp
import Derived.Test.YtknphdcjopaaoaaCodeM
namespace Go.Proofs.Ytknphdcjopaaoaa
open Go.RowKit
set_option linter.unusedVariables false
set_option linter.unusedSimpArgs false
set_option maxRecDepth 100000 in
theorem liesB : lies 78 2 0 := ⟨by decide, by kernel_rfl⟩

theorem resetV {id ver : Nat} {a r : TV} {H : List Ob} {K : TV → List Ob → Prop} (ho : H[id]? = some (.obj ver (.agg [a, r]))) (ha : width a = 1) (hr : width r = 1)
    (hk : K (.tup []) (H.set id (.obj ver (.agg [.val (.pointer none), .val (.slice none 0 0)])))) : VCalls Try.prog 51 [.op id ver []] H K := by
  refine go_strings_Builder_Reset (by simp) ?_
  have hid : id < H.length := (List.getElem?_eq_some_iff.1 ho).1
  simp -dsimp (disch := first | assumption | omega) only [↓vmPre, vmPost, vmWrd, vmDat, eq_self, forall_const, Nat.reduceLT, Nat.reduceEqDiff, Nat.reduceSub, Nat.reduceMul, Nat.reduceMod, Nat.reduceDiv, Nat.reducePow, UInt8.reduceToNat, Int.reduceEq, Int.reduceLT, Int.reduceLE, ↓reduceIte, Nat.reduceEqDiff, Nat.reduceAdd, Int.reduceToNat, reduceCtorEq, Nat.reduceLeDiff, ↓u_strings_Builder_Reset, ho, ha, hr]
  exact hk
theorem row0 {a r : TV} (ha : width a = 1) : getP [(1, 1)] (.agg [a, r]) = some r := by
  rw [getP_agg, if_pos (by simp [widths, ha])]; rfl
theorem rowS {a r b : TV} (ha : width a = 1) (hr : width r = 1) (hb : width b = 1) : setP [(1, 1)] (.agg [a, r]) b = some (.agg [a, b]) := by
  rw [setP_agg, if_pos (by simp [widths, ha])]; simp [setP_nil, hr, hb]
theorem scal_tb : ∀ (l : List Bool), scalL (l.map tb) = true
  | [] => rfl
  | b :: l => by rw [List.map_cons]; have := scal_tb l; simp_all [scalL, tb, scal]
/-- Ahead of each round. -/
def SideI (E : List (Nat × List UInt8)) (N : Nat) (q : Nat) (e : Env) (H : List Ob) : Prop :=
  ∃ (i v1 v2 : Nat) (a r x0 : TV) (ks : List Bool) (az : List (List UInt8)) (cur : List UInt8) (J : Option Nat),
    q = E.length - i ∧ i ≤ E.length ∧ BldSelf 2 0 [] a ∧ Buf H r cur J ∧ ks.length ≤ i ∧ az.length ≤ i ∧ cur.length + (news (E.drop i)).flatten.length ≤ N ∧
    sideOf E [] = (ks ++ (sideOf (E.drop i) cur).1, az ++ (sideOf (E.drop i) cur).2) ∧
    e = [(4, .op 0 0 []), (5, .op 1 0 []), (6, .op 2 0 []), (11, .sl 2 (E.map ed)), (12, i64 (E.length : Int)), (13, i64 (i : Int))] ∧
    H[0]? = some (.obj 0 (.agg [.val (.slice none 0 0), .val (.slice none 0 0)])) ∧
    H[1]? = some (.obj 0 (.agg [.os 1 5 v1 [] 0 ks.length ks.length, .os 1 4 v2 [] 0 az.length az.length])) ∧
    H[2]? = some (.obj 0 (.agg [a, r])) ∧ H[3]? = some (.fact 2 0 78 2) ∧
    H[4]? = some (.obj v2 (.arr az.length 1 (az.map ts))) ∧ H[5]? = some (.obj v1 (.arr ks.length 1 (ks.map tb)))
theorem sideV (a b : List UInt8) (ha : a.length ≤ 4000) (hb : b.length ≤ 4000) : VFresh Try.prog 38 [slB a, slB b] (fun r => r = .agg [.sl 1 ((side a b).1.map tb), slS (side a b).2]) := by
  refine VCalls.toFreshV (go_merge_newSide (by simp) ?_)
  simp -dsimp (disch := first | assumption | omega) only [↓vmPre, vmPost, vmWrd, vmDat, eq_self, forall_const, Nat.reduceLT, Nat.reduceEqDiff, Nat.reduceSub, Nat.reduceMul, Nat.reduceMod, Nat.reduceDiv, Nat.reducePow, UInt8.reduceToNat, Int.reduceEq, Int.reduceLT, Int.reduceLE, ↓reduceIte, Nat.reduceEqDiff, Nat.reduceAdd, Int.reduceToNat, reduceCtorEq, Nat.reduceLeDiff, ↓u_merge_newSide]
  refine (diffEdits (a := a) (b := b) ha hb).lends (args' := [slB a, slB b]) ?_ ?_
  · simp -dsimp (disch := first | assumption | omega) only [↓vmPre, vmPost, vmWrd, vmDat, eq_self, forall_const, Nat.reduceLT, Nat.reduceEqDiff, Nat.reduceSub, Nat.reduceMul, Nat.reduceMod, Nat.reduceDiv, Nat.reducePow, UInt8.reduceToNat, Int.reduceEq, Int.reduceLT, Int.reduceLE, ↓reduceIte, Nat.reduceEqDiff, Nat.reduceAdd, Int.reduceToNat, reduceCtorEq, Nat.reduceLeDiff]
  rintro _ rfl
  have hE : (edx (isLong a b) (linesOf a) (linesOf b)).length ≤ 100000 := by
    have := edx_len (isLong a b) (linesOf a) (linesOf b)
    have := linesOf_length a
    have := linesOf_length b
    omega
  have hN : (news (edx (isLong a b) (linesOf a) (linesOf b))).flatten.length ≤ 4000 := by rw [(edx_texts _ _ _).2, linesOf_flat]; exact hb
  have hS : side a b = sideOf (edx (isLong a b) (linesOf a) (linesOf b)) [] := rfl
  rw [hS]
  generalize edx (isLong a b) (linesOf a) (linesOf b) = E at *
  simp -dsimp (disch := first | assumption | omega) only [↓vmPre, vmPost, vmWrd, vmDat, eq_self, forall_const, Nat.reduceLT, Nat.reduceEqDiff, Nat.reduceSub, Nat.reduceMul, Nat.reduceMod, Nat.reduceDiv, Nat.reducePow, UInt8.reduceToNat, Int.reduceEq, Int.reduceLT, Int.reduceLE, ↓reduceIte, Nat.reduceEqDiff, Nat.reduceAdd, Int.reduceToNat, reduceCtorEq, Nat.reduceLeDiff, ↓u_merge_newSide]
  refine w_loop (SideI E 4000) E.length ?_ ?_
  · exact ⟨0, 0, 0, _, _, .any, [], [], [], none, by simp, by simp, .inl rfl, ⟨rfl, rfl⟩, by simp, by simp, by simpa using hN, by simp, rfl, rfl, rfl, rfl, rfl, rfl, rfl⟩
  · rintro q e H ⟨i, v1, v2, a, r, x0, ks, az, cur, J, rfl, hi, hba, hbuf, hk, has, hcur, hs, rfl, h0, h1, h2, h3, h4, h5⟩
    have wa := width_self hba
    have wr := hbuf.wd
    have hL : 6 ≤ H.length := (List.getElem?_eq_some_iff.1 h5).1
    rw [u_merge_newSide_L5_e]
    refine ownT_any (p0 := []) (p := [(1, 1)]) rfl h2 (row0 wa) hbuf (fun b wb => ⟨_, rowS wa wr wb⟩) (rowS wa wr wr) ?_
    intro H1 x1 j v hs1 ho1 hj1 hfr hl1 hJ
    rw [List.nil_append, rowS wa wr rfl] at hs1
    obtain rfl := Option.some.inj hs1
    have g0 : H1[0]? = _ := (hfr 0 (by omega) (by omega)).trans h0
    have g1 : H1[1]? = _ := (hfr 1 (by omega) (by omega)).trans h1
    have g3 : H1[3]? = _ := (hfr 3 (by omega) (by omega)).trans h3
    have g4 : H1[4]? = _ := (hfr 4 (by omega) (by omega)).trans h4
    have g5 : H1[5]? = _ := (hfr 5 (by omega) (by omega)).trans h5
    clear hs1
    have hL1 : 6 ≤ H1.length := by omega
    have hj6 : 6 ≤ j := by
      rcases Nat.lt_or_ge j 6 with h | h
      · exfalso
        have : j = 0 ∨ j = 1 ∨ j = 2 ∨ j = 3 ∨ j = 4 ∨ j = 5 := by omega
        rcases this with rfl | rfl | rfl | rfl | rfl | rfl <;> simp_all
      · exact h
    have hjl : j < H1.length := (List.getElem?_eq_some_iff.1 hj1).1
    by_cases hlt : i < E.length
    · have hg : E[i]? = some E[i] := List.getElem?_eq_getElem hlt
      have hd := List.drop_eq_getElem_cons hlt
      rw [hd] at hs hcur
      generalize E[i] = en at *
      obtain ⟨k, ln⟩ := en
      simp -dsimp (disch := first | assumption | omega) only [↓vmPre, vmPost, vmWrd, vmDat, eq_self, forall_const, Nat.reduceLT, Nat.reduceEqDiff, Nat.reduceSub, Nat.reduceMul, Nat.reduceMod, Nat.reduceDiv, Nat.reducePow, UInt8.reduceToNat, Int.reduceEq, Int.reduceLT, Int.reduceLE, ↓reduceIte, Nat.reduceEqDiff, Nat.reduceAdd, Int.reduceToNat, reduceCtorEq, Nat.reduceLeDiff, ↓u_merge_newSide, g0, g1, ho1, g3, g4, g5, hj1, hg, ed_is]
      have hb := bstr_is
      have hjn : ∀ n, n < 6 → j ≠ n := fun n hn => by omega
      refine vif_cases (fun hk2 => ?_) (fun hk2 => ?_)
      · subst hk2
        have hl : cur.length + ln.length + (news (E.drop (i + 1))).flatten.length ≤ 4000 := by simpa [news, Nat.add_assoc] using hcur
        simp -dsimp (disch := first | assumption | omega) only [↓vmPre, vmPost, vmWrd, vmDat, eq_self, forall_const, Nat.reduceLT, Nat.reduceEqDiff, Nat.reduceSub, Nat.reduceMul, Nat.reduceMod, Nat.reduceDiv, Nat.reducePow, UInt8.reduceToNat, Int.reduceEq, Int.reduceLT, Int.reduceLE, ↓reduceIte, Nat.reduceEqDiff, Nat.reduceAdd, Int.reduceToNat, reduceCtorEq, Nat.reduceLeDiff, ↓u_merge_newSide, g0, g1, ho1, g3, g4, g5, hj1, hg, ed_is]
        have hn6 : ∀ n, n < 6 → n < H1.length := fun n hn => by omega
        refine writeAny (x := .agg [a, .os 1 j v [] 0 cur.length cur.length]) (J := some j) (q := 3) ((ob_low (hn6 2 (by omega))).trans ho1) rfl rfl hba ⟨v, rfl, (ob_low hjl).trans hj1⟩ ((ob_low (hn6 3 (by omega))).trans g3) liesB (by omega) ?_
        intro H2 x2 r2 j2 hs2 ho2 hb2 hfr2 hl2 hJ2
        have hx2 : x2 = .agg [.op 2 0 [], r2] := by
          rw [setP_nil, if_pos (by simp [width, widths, hb2.wd, wa])] at hs2
          exact (Option.some.inj hs2).symm
        subst hx2
        have low : ∀ n o, n < 6 → n ≠ 2 → H1[n]? = some o → H2[n]? = some o := fun n o h1 h2 h3 => by
          rw [hfr2 n (by simp; omega) h2 (by simp; exact hjn n h1), ob_low (hn6 n h1)]; exact h3
        have hH2 : 6 ≤ H2.length := by simp at hl2; omega
        simp -dsimp (disch := first | assumption | omega) only [↓vmPre, vmPost, vmWrd, vmDat, eq_self, forall_const, Nat.reduceLT, Nat.reduceEqDiff, Nat.reduceSub, Nat.reduceMul, Nat.reduceMod, Nat.reduceDiv, Nat.reducePow, UInt8.reduceToNat, Int.reduceEq, Int.reduceLT, Int.reduceLE, ↓reduceIte, Nat.reduceEqDiff, Nat.reduceAdd, Int.reduceToNat, reduceCtorEq, Nat.reduceLeDiff, ↓u_merge_newSide]
        refine Rnd_keep (E.length - (i + 1)) (by omega) (by simpa using hH2) ⟨i + 1, v1, v2, _, r2, .any, ks, az, cur ++ ln, _, rfl, by omega, .inr rfl, hb2, by omega, by omega, by simpa using hl, ?_, rfl, low 0 _ (by omega) (by omega) g0, low 1 _ (by omega) (by omega) g1, ho2, low 3 _ (by omega) (by omega) g3, low 4 _ (by omega) (by omega) g4, low 5 _ (by omega) (by omega) g5⟩
        rw [hs, sideOf, if_pos rfl]
      · have map_tb : ∀ (l : List Bool) (b : Bool), l.map tb ++ [TV.val (.bool b)] = (l ++ [b]).map tb := fun l b => by simp [tb]
        simp -dsimp (disch := first | assumption | omega | (simp only [List.length_set, List.length_append, List.length_cons, List.length_nil]; done) | (simp only [List.length_set, List.length_append, List.length_cons, List.length_nil]; omega)) only [↓vmPre, vmPost, vmWrd, vmDat, eq_self, forall_const, Nat.reduceLT, Nat.reduceEqDiff, Nat.reduceSub, Nat.reduceMul, Nat.reduceMod, Nat.reduceDiv, Nat.reducePow, UInt8.reduceToNat, Int.reduceEq, Int.reduceLT, Int.reduceLE, ↓reduceIte, Nat.reduceEqDiff, Nat.reduceAdd, Int.reduceToNat, reduceCtorEq, Nat.reduceLeDiff, ↓u_merge_newSide, g0, g1, ho1, g3, g4, g5, hj1, hg, ed_is, hb, List.append_assoc, hjn, wa, one_set, take_one', take_map, map_tb, map_ts_app]
        refine resetV (a := a) (r := .os 1 j v [] 0 cur.length cur.length) (by simp -dsimp (disch := first | assumption | omega | (simp only [List.length_set, List.length_append, List.length_cons, List.length_nil]; done) | (simp only [List.length_set, List.length_append, List.length_cons, List.length_nil]; omega)) only [↓vmPre, vmPost, vmWrd, vmDat, eq_self, forall_const, Nat.reduceLT, Nat.reduceEqDiff, Nat.reduceSub, Nat.reduceMul, Nat.reduceMod, Nat.reduceDiv, Nat.reducePow, UInt8.reduceToNat, Int.reduceEq, Int.reduceLT, Int.reduceLE, ↓reduceIte, Nat.reduceEqDiff, Nat.reduceAdd, Int.reduceToNat, reduceCtorEq, Nat.reduceLeDiff, ho1, hjn]) wa rfl ?_
        have hl : (news (E.drop (i + 1))).flatten.length ≤ 4000 := by
          rw [news] at hcur; split at hcur
          · omega
          · rw [List.flatten_cons, List.length_append] at hcur; omega
        simp -dsimp (disch := first | assumption | omega) only [↓vmPre, vmPost, vmWrd, vmDat, eq_self, forall_const, Nat.reduceLT, Nat.reduceEqDiff, Nat.reduceSub, Nat.reduceMul, Nat.reduceMod, Nat.reduceDiv, Nat.reducePow, UInt8.reduceToNat, Int.reduceEq, Int.reduceLT, Int.reduceLE, ↓reduceIte, Nat.reduceEqDiff, Nat.reduceAdd, Int.reduceToNat, reduceCtorEq, Nat.reduceLeDiff, ↓u_merge_newSide]
        refine Rnd_keep (E.length - (i + 1)) (by omega) (by simp; omega) ⟨i + 1, v1 + 1, v2 + 1, _, _, .any, ks ++ [decide (k = 0)], az ++ [cur], [], none, rfl, by omega, .inl rfl, ⟨rfl, rfl⟩, by simp; omega, by simp; omega, by simpa using hl, ?_, rfl, by simp -dsimp (disch := first | assumption | omega | (simp only [List.length_set, List.length_append, List.length_cons, List.length_nil]; done) | (simp only [List.length_set, List.length_append, List.length_cons, List.length_nil]; omega)) only [↓vmPre, vmPost, vmWrd, vmDat, eq_self, forall_const, Nat.reduceLT, Nat.reduceEqDiff, Nat.reduceSub, Nat.reduceMul, Nat.reduceMod, Nat.reduceDiv, Nat.reducePow, UInt8.reduceToNat, Int.reduceEq, Int.reduceLT, Int.reduceLE, ↓reduceIte, Nat.reduceEqDiff, Nat.reduceAdd, Int.reduceToNat, reduceCtorEq, Nat.reduceLeDiff, g0, hjn], by simp -dsimp (disch := first | assumption | omega | (simp only [List.length_set, List.length_append, List.length_cons, List.length_nil]; done) | (simp only [List.length_set, List.length_append, List.length_cons, List.length_nil]; omega)) only [↓vmPre, vmPost, vmWrd, vmDat, eq_self, forall_const, Nat.reduceLT, Nat.reduceEqDiff, Nat.reduceSub, Nat.reduceMul, Nat.reduceMod, Nat.reduceDiv, Nat.reducePow, UInt8.reduceToNat, Int.reduceEq, Int.reduceLT, Int.reduceLE, ↓reduceIte, Nat.reduceEqDiff, Nat.reduceAdd, Int.reduceToNat, reduceCtorEq, Nat.reduceLeDiff, g1, hjn, List.length_append], by simp -dsimp (disch := first | assumption | omega | (simp only [List.length_set, List.length_append, List.length_cons, List.length_nil]; done) | (simp only [List.length_set, List.length_append, List.length_cons, List.length_nil]; omega)) only [↓vmPre, vmPost, vmWrd, vmDat, eq_self, forall_const, Nat.reduceLT, Nat.reduceEqDiff, Nat.reduceSub, Nat.reduceMul, Nat.reduceMod, Nat.reduceDiv, Nat.reducePow, UInt8.reduceToNat, Int.reduceEq, Int.reduceLT, Int.reduceLE, ↓reduceIte, Nat.reduceEqDiff, Nat.reduceAdd, Int.reduceToNat, reduceCtorEq, Nat.reduceLeDiff, ho1, hjn], by simp -dsimp (disch := first | assumption | omega | (simp only [List.length_set, List.length_append, List.length_cons, List.length_nil]; done) | (simp only [List.length_set, List.length_append, List.length_cons, List.length_nil]; omega)) only [↓vmPre, vmPost, vmWrd, vmDat, eq_self, forall_const, Nat.reduceLT, Nat.reduceEqDiff, Nat.reduceSub, Nat.reduceMul, Nat.reduceMod, Nat.reduceDiv, Nat.reducePow, UInt8.reduceToNat, Int.reduceEq, Int.reduceLT, Int.reduceLE, ↓reduceIte, Nat.reduceEqDiff, Nat.reduceAdd, Int.reduceToNat, reduceCtorEq, Nat.reduceLeDiff, g3, hjn], by simp -dsimp (disch := first | assumption | omega | (simp only [List.length_set, List.length_append, List.length_cons, List.length_nil]; done) | (simp only [List.length_set, List.length_append, List.length_cons, List.length_nil]; omega)) only [↓vmPre, vmPost, vmWrd, vmDat, eq_self, forall_const, Nat.reduceLT, Nat.reduceEqDiff, Nat.reduceSub, Nat.reduceMul, Nat.reduceMod, Nat.reduceDiv, Nat.reducePow, UInt8.reduceToNat, Int.reduceEq, Int.reduceLT, Int.reduceLE, ↓reduceIte, Nat.reduceEqDiff, Nat.reduceAdd, Int.reduceToNat, reduceCtorEq, Nat.reduceLeDiff, g4, hjn, List.length_append], by simp -dsimp (disch := first | assumption | omega | (simp only [List.length_set, List.length_append, List.length_cons, List.length_nil]; done) | (simp only [List.length_set, List.length_append, List.length_cons, List.length_nil]; omega)) only [↓vmPre, vmPost, vmWrd, vmDat, eq_self, forall_const, Nat.reduceLT, Nat.reduceEqDiff, Nat.reduceSub, Nat.reduceMul, Nat.reduceMod, Nat.reduceDiv, Nat.reducePow, UInt8.reduceToNat, Int.reduceEq, Int.reduceLT, Int.reduceLE, ↓reduceIte, Nat.reduceEqDiff, Nat.reduceAdd, Int.reduceToNat, reduceCtorEq, Nat.reduceLeDiff, g5, hjn, List.length_append]⟩
        rw [hs, sideOf, if_neg hk2]
        simp
    · have hi2 : i = E.length := by omega
      have hjn : ∀ n, n < 6 → j ≠ n := fun n hn => by omega
      simp -dsimp (disch := first | assumption | omega | (simp only [List.length_set, List.length_append, List.length_cons, List.length_nil]; done) | (simp only [List.length_set, List.length_append, List.length_cons, List.length_nil]; omega)) only [↓vmPre, vmPost, vmWrd, vmDat, eq_self, forall_const, Nat.reduceLT, Nat.reduceEqDiff, Nat.reduceSub, Nat.reduceMul, Nat.reduceMod, Nat.reduceDiv, Nat.reducePow, UInt8.reduceToNat, Int.reduceEq, Int.reduceLT, Int.reduceLE, ↓reduceIte, Nat.reduceEqDiff, Nat.reduceAdd, Int.reduceToNat, reduceCtorEq, Nat.reduceLeDiff, ↓u_merge_newSide, g0, g1, ho1, g3, g4, g5, hj1, wa, bstr_is, hjn, List.append_assoc, one_set, take_one', take_map, map_ts_app]
      have hsc : scalL (ks.map tb) = true := scal_tb ks
      rw [hi2, List.drop_length, sideOf] at hs
      rw [if_pos hsc, hs]
      simp only [List.append_nil]
      show TV.agg _ = _
      simp [slS]
end Go.Proofs.Ytknphdcjopaaoaa
