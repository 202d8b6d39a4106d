/- diff.hunks. -/
import Derived.Test.YtijidndhlgbjhaaDoorVpCount
namespace Go.Proofs.YtijidndhlgbjhaaDoor
open Go.RowKit
variable [Globs]
set_option linter.unusedSectionVars false
set_option linter.unusedVariables false
set_option linter.unusedSimpArgs false

def hkT (E : List Ed) (p : Nat × Nat) : TV := .agg [i64 (cA (E.take p.1) : Int), i64 (cB (E.take p.1) : Int), .sl 2 ((midP E p).map ed)]
theorem hkT_is {E : List Ed} {p : Nat × Nat} : hkT E p = .agg [i64 (cA (E.take p.1) : Int), i64 (cB (E.take p.1) : Int), .sl 2 ((midP E p).map ed)] := by unfold hkT; rfl
theorem width_hkT {E : List Ed} {p : Nat × Nat} : width (hkT E p) = 3 := by rw [hkT_is]; rfl
theorem map_hkT_app {E : List Ed} {l : List (Nat × Nat)} {a b : Nat} : l.map (hkT E) ++ [TV.agg [i64 (cA (E.take a) : Int), i64 (cB (E.take a) : Int), .sl 2 ((midP E (a, b)).map ed)]] = (l ++ [(a, b)]).map (hkT E) := by simp [hkT]
theorem take_hkT {E : List Ed} {l : List (Nat × Nat)} {n : Nat} (h : n = l.length) : (l.map (hkT E)).take n = l.map (hkT E) := by rw [List.take_of_length_le (by simp [h])]
theorem take_cl {l : List Nat} {n : Nat} (h : n = l.length) : (l.map cl).take n = l.map cl := by rw [List.take_of_length_le (by simp [h])]
theorem map_cl_app {l : List Nat} {k : Nat} : l.map cl ++ [i64 (k : Int)] = (l ++ [k]).map cl := by simp [cl]
theorem chs_lt : ∀ (l : List Ed) (k : Nat), (chs k l).Pairwise (· < ·)
  | [], k => by simp [chs]
  | e :: l, k => by
    rw [chs]; split
    · exact chs_lt l (k + 1)
    · exact List.pairwise_cons.2 ⟨fun y hy => by have := (chs_ge _ _ _ hy).1; omega, chs_lt l (k + 1)⟩
theorem runs_stop {c x : Nat} {l : List Nat} (h : ∀ y, l[0]? = some y → x + 2 * c + 1 < y) : run c x l = (x, l) := by
  cases l with
  | nil => rw [run]
  | cons y ys => rw [run, if_neg (by have := h y rfl; omega)]

/-- A hunk, when it is known how many changes it has. -/
theorem hunksTail {E : List Ed} {l : List Nat} {hs : List (Nat × Nat)} {c off j v v2 x last : Nat} {Q : VEx → Env → List Ob → Prop} {r : Env} (hE : E.length ≤ 10000) (hc : c ≤ 1000) (hl : l.length ≤ 10000) (hhs : hs.length ≤ 10000) (hj0 : 0 < j) (hj : off + j ≤ l.length)
    (hx : l[off]? = some x) (hy : l[off + (j - 1)]? = some last) (hxl : x ≤ last) (hlE : last < E.length)
    (hQ : ∀ o, Q .nor [(0, .sl 2 (E.map ed)), (1, i64 (c : Int)), (5, .os 3 1 (v2 + 1) [] 0 (hs.length + 1) (hs.length + 1)), (6, .os 1 0 v [] (off + j) (l.length - off - j) (l.length - off - j))]
      [.obj v (.arr l.length 1 (l.map cl)), .obj (v2 + 1) (.arr (hs.length + 1) 3 ((hs ++ [(x - c, min E.length (last + 1 + c))]).map (hkT E))), o]) :
    vwp Tryd.prog c_diff_hunks_k8 Q ((0, .sl 2 (E.map ed)) :: (1, i64 (c : Int)) :: (5, .os 3 1 v2 [] 0 hs.length hs.length) :: (6, .os 1 0 v [] off (l.length - off) (l.length - off)) :: (9, i64 (j : Int)) :: r)
      [.obj v (.arr l.length 1 (l.map cl)), .obj v2 (.arr hs.length 3 (hs.map (hkT E)))] := by
  have f1 : ∀ k, (E.take k).length ≤ 100000 := fun k => by simp; omega
  have e1 : midP E (x - c, min E.length (last + 1 + c)) = (E.drop (x - c)).take (min E.length (last + 1 + c) - (x - c)) := by unfold midP; rw [List.drop_take]
  have g1 : cA (E.take (x - c)) ≤ 10000 := Nat.le_trans (cA_le _) (by simp; omega)
  have g2 : cB (E.take (x - c)) ≤ 10000 := Nat.le_trans (cB_le _) (by simp; omega)
  by_cases h1 : x ≤ c
  · have e2 : x - c = 0 := by omega
    rw [e2] at e1 hQ g1 g2
    by_cases h2 : last + 1 + c < E.length
    · have e3 : min E.length (last + 1 + c) = last + 1 + c := by omega
      rw [e3] at e1 hQ
      simp -dsimp (disch := first | assumption | omega | (simp only [List.length_set, List.length_append, List.length_cons, List.length_nil]; done) | (simp only [List.length_set, List.length_append, List.length_cons, List.length_nil]; omega)) only [↓vmPre, vmPost, vmWrd, vmDat, eq_self, forall_const, Nat.reduceLT, Nat.reduceEqDiff, Nat.reduceSub, Nat.reduceMul, Nat.reduceMod, Nat.reduceDiv, Nat.reducePow, UInt8.reduceToNat, Int.reduceEq, Int.reduceLT, Int.reduceLE, ↓reduceIte, Nat.reduceEqDiff, Nat.reduceAdd, Int.reduceToNat, reduceCtorEq, Nat.reduceLeDiff, ↓u_diff_hunks, hx, hy, cl_is, Nat.add_zero]
      refine (countsV (E.take 0) 0 0 (f1 _)).calls rfl ?_
      rintro _ rfl
      simp -dsimp (disch := first | assumption | omega | (simp only [List.length_set, List.length_append, List.length_cons, List.length_nil]; done) | (simp only [List.length_set, List.length_append, List.length_cons, List.length_nil]; omega)) only [↓vmPre, vmPost, vmWrd, vmDat, eq_self, forall_const, Nat.reduceLT, Nat.reduceEqDiff, Nat.reduceSub, Nat.reduceMul, Nat.reduceMod, Nat.reduceDiv, Nat.reducePow, UInt8.reduceToNat, Int.reduceEq, Int.reduceLT, Int.reduceLE, ↓reduceIte, Nat.reduceEqDiff, Nat.reduceAdd, Int.reduceToNat, reduceCtorEq, Nat.reduceLeDiff, ↓u_diff_hunks, Nat.add_zero, one_rep]
      have hq := hQ (.obj 0 (.arr 1 3 [hkT E (0, last + 1 + c)]))
      simp only [List.map_append, List.map_cons, List.map_nil, hkT_is, e1, List.drop_zero, List.take_zero, Nat.sub_zero, List.map_take, List.map_drop, List.take_length] at hq ⊢
      exact hq
    · have e3 : min E.length (last + 1 + c) = E.length := by omega
      rw [e3] at e1 hQ
      simp -dsimp (disch := first | assumption | omega | (simp only [List.length_set, List.length_append, List.length_cons, List.length_nil]; done) | (simp only [List.length_set, List.length_append, List.length_cons, List.length_nil]; omega)) only [↓vmPre, vmPost, vmWrd, vmDat, eq_self, forall_const, Nat.reduceLT, Nat.reduceEqDiff, Nat.reduceSub, Nat.reduceMul, Nat.reduceMod, Nat.reduceDiv, Nat.reducePow, UInt8.reduceToNat, Int.reduceEq, Int.reduceLT, Int.reduceLE, ↓reduceIte, Nat.reduceEqDiff, Nat.reduceAdd, Int.reduceToNat, reduceCtorEq, Nat.reduceLeDiff, ↓u_diff_hunks, hx, hy, cl_is, Nat.add_zero]
      refine (countsV (E.take 0) 0 0 (f1 _)).calls rfl ?_
      rintro _ rfl
      simp -dsimp (disch := first | assumption | omega | (simp only [List.length_set, List.length_append, List.length_cons, List.length_nil]; done) | (simp only [List.length_set, List.length_append, List.length_cons, List.length_nil]; omega)) only [↓vmPre, vmPost, vmWrd, vmDat, eq_self, forall_const, Nat.reduceLT, Nat.reduceEqDiff, Nat.reduceSub, Nat.reduceMul, Nat.reduceMod, Nat.reduceDiv, Nat.reducePow, UInt8.reduceToNat, Int.reduceEq, Int.reduceLT, Int.reduceLE, ↓reduceIte, Nat.reduceEqDiff, Nat.reduceAdd, Int.reduceToNat, reduceCtorEq, Nat.reduceLeDiff, ↓u_diff_hunks, Nat.add_zero, one_rep]
      have hq := hQ (.obj 0 (.arr 1 3 [hkT E (0, E.length)]))
      simp only [List.map_append, List.map_cons, List.map_nil, hkT_is, e1, List.drop_zero, List.take_zero, Nat.sub_zero, List.map_take, List.map_drop, List.take_length] at hq ⊢
      exact hq
  · have e2 : c < x := by omega
    by_cases h2 : last + 1 + c < E.length
    · have e3 : min E.length (last + 1 + c) = last + 1 + c := by omega
      rw [e3] at e1 hQ
      simp -dsimp (disch := first | assumption | omega | (simp only [List.length_set, List.length_append, List.length_cons, List.length_nil]; done) | (simp only [List.length_set, List.length_append, List.length_cons, List.length_nil]; omega)) only [↓vmPre, vmPost, vmWrd, vmDat, eq_self, forall_const, Nat.reduceLT, Nat.reduceEqDiff, Nat.reduceSub, Nat.reduceMul, Nat.reduceMod, Nat.reduceDiv, Nat.reducePow, UInt8.reduceToNat, Int.reduceEq, Int.reduceLT, Int.reduceLE, ↓reduceIte, Nat.reduceEqDiff, Nat.reduceAdd, Int.reduceToNat, reduceCtorEq, Nat.reduceLeDiff, ↓u_diff_hunks, hx, hy, cl_is, Nat.add_zero]
      refine (countsV (E.take (x - c)) 0 0 (f1 _)).calls rfl ?_
      rintro _ rfl
      simp -dsimp (disch := first | assumption | omega | (simp only [List.length_set, List.length_append, List.length_cons, List.length_nil]; done) | (simp only [List.length_set, List.length_append, List.length_cons, List.length_nil]; omega)) only [↓vmPre, vmPost, vmWrd, vmDat, eq_self, forall_const, Nat.reduceLT, Nat.reduceEqDiff, Nat.reduceSub, Nat.reduceMul, Nat.reduceMod, Nat.reduceDiv, Nat.reducePow, UInt8.reduceToNat, Int.reduceEq, Int.reduceLT, Int.reduceLE, ↓reduceIte, Nat.reduceEqDiff, Nat.reduceAdd, Int.reduceToNat, reduceCtorEq, Nat.reduceLeDiff, ↓u_diff_hunks, Nat.add_zero, one_rep]
      have hq := hQ (.obj 0 (.arr 1 3 [hkT E ((x - c), last + 1 + c)]))
      simp only [List.map_append, List.map_cons, List.map_nil, hkT_is, e1, List.drop_zero, List.take_zero, Nat.sub_zero, List.map_take, List.map_drop, List.take_length] at hq ⊢
      exact hq
    · have e3 : min E.length (last + 1 + c) = E.length := by omega
      rw [e3] at e1 hQ
      rw [List.take_of_length_le (by simp : (E.drop (x - c)).length ≤ E.length - (x - c))] at e1
      simp -dsimp (disch := first | assumption | omega | (simp only [List.length_set, List.length_append, List.length_cons, List.length_nil]; done) | (simp only [List.length_set, List.length_append, List.length_cons, List.length_nil]; omega)) only [↓vmPre, vmPost, vmWrd, vmDat, eq_self, forall_const, Nat.reduceLT, Nat.reduceEqDiff, Nat.reduceSub, Nat.reduceMul, Nat.reduceMod, Nat.reduceDiv, Nat.reducePow, UInt8.reduceToNat, Int.reduceEq, Int.reduceLT, Int.reduceLE, ↓reduceIte, Nat.reduceEqDiff, Nat.reduceAdd, Int.reduceToNat, reduceCtorEq, Nat.reduceLeDiff, ↓u_diff_hunks, hx, hy, cl_is, Nat.add_zero]
      refine (countsV (E.take (x - c)) 0 0 (f1 _)).calls rfl ?_
      rintro _ rfl
      simp -dsimp (disch := first | assumption | omega | (simp only [List.length_set, List.length_append, List.length_cons, List.length_nil]; done) | (simp only [List.length_set, List.length_append, List.length_cons, List.length_nil]; omega)) only [↓vmPre, vmPost, vmWrd, vmDat, eq_self, forall_const, Nat.reduceLT, Nat.reduceEqDiff, Nat.reduceSub, Nat.reduceMul, Nat.reduceMod, Nat.reduceDiv, Nat.reducePow, UInt8.reduceToNat, Int.reduceEq, Int.reduceLT, Int.reduceLE, ↓reduceIte, Nat.reduceEqDiff, Nat.reduceAdd, Int.reduceToNat, reduceCtorEq, Nat.reduceLeDiff, ↓u_diff_hunks, Nat.add_zero, one_rep]
      have hq := hQ (.obj 0 (.arr 1 3 [hkT E ((x - c), E.length)]))
      simp only [List.map_append, List.map_cons, List.map_nil, hkT_is, e1, List.drop_zero, List.take_zero, Nat.sub_zero, List.map_take, List.map_drop, List.take_length] at hq ⊢
      exact hq
theorem hunksV (E : List Ed) (c : Nat) (hE : E.length ≤ 10000) (hc : c ≤ 1000) : VPure Tryd.prog 56 [.sl 2 (E.map ed), i64 (c : Int)] (fun r => r = .sl 3 ((hks c E.length (chs 0 E)).map (hkT E))) := by
  refine VCalls.toPureV (go_diff_hunks (by simp) ?_)
  simp -dsimp (disch := first | assumption | omega) only [↓vmPre, vmPost, vmWrd, vmDat, eq_self, forall_const, Nat.reduceLT, Nat.reduceEqDiff, Nat.reduceSub, Nat.reduceMul, Nat.reduceMod, Nat.reduceDiv, Nat.reducePow, UInt8.reduceToNat, Int.reduceEq, Int.reduceLT, Int.reduceLE, ↓reduceIte, Nat.reduceEqDiff, Nat.reduceAdd, Int.reduceToNat, reduceCtorEq, Nat.reduceLeDiff, ↓u_diff_hunks]
  refine w_loop (fun q e H => ∃ (i v : Nat) (l : List Nat), q = E.length - i ∧ i ≤ E.length ∧ l.length ≤ i ∧ chs 0 E = l ++ chs i (E.drop i) ∧
    e = [(0, .sl 2 (E.map ed)), (1, i64 (c : Int)), (5, .val (.slice none 0 0)), (6, .os 1 0 v [] 0 l.length l.length), (14, .sl 2 (E.map ed)), (15, i64 (E.length : Int)), (16, i64 (i : Int))] ∧ H = [.obj v (.arr l.length 1 (l.map cl))]) E.length ?_ ?_
  · exact ⟨0, 0, [], rfl, by omega, by simp, rfl, rfl, rfl⟩
  · rintro q e H ⟨i, v, l, rfl, hi, hli, hch, rfl, rfl⟩
    by_cases h : i < E.length
    · obtain ⟨x, hx⟩ : ∃ x, E[i]? = some x := ⟨_, List.getElem?_eq_getElem h⟩
      by_cases h0 : x.1 = 0
      · simp -dsimp (disch := first | assumption | omega | (simp only [List.length_set, List.length_append, List.length_cons, List.length_nil]; done) | (simp only [List.length_set, List.length_append, List.length_cons, List.length_nil]; omega)) only [↓vmPre, vmPost, vmWrd, vmDat, eq_self, forall_const, Nat.reduceLT, Nat.reduceEqDiff, Nat.reduceSub, Nat.reduceMul, Nat.reduceMod, Nat.reduceDiv, Nat.reducePow, UInt8.reduceToNat, Int.reduceEq, Int.reduceLT, Int.reduceLE, ↓reduceIte, Nat.reduceEqDiff, Nat.reduceAdd, Int.reduceToNat, reduceCtorEq, Nat.reduceLeDiff, ↓u_diff_hunks, hx, ed_is, width_ed]
        rw [chs_keep hx h0] at hch
        exact Rnd_cut (E.length - (i + 1)) 1 (by omega) (by simp) rfl rfl ⟨i + 1, v, l, rfl, by omega, by omega, hch, rfl, rfl⟩
      · simp -dsimp (disch := first | assumption | omega | (simp only [List.length_set, List.length_append, List.length_cons, List.length_nil]; done) | (simp only [List.length_set, List.length_append, List.length_cons, List.length_nil]; omega)) only [↓vmPre, vmPost, vmWrd, vmDat, eq_self, forall_const, Nat.reduceLT, Nat.reduceEqDiff, Nat.reduceSub, Nat.reduceMul, Nat.reduceMod, Nat.reduceDiv, Nat.reducePow, UInt8.reduceToNat, Int.reduceEq, Int.reduceLT, Int.reduceLE, ↓reduceIte, Nat.reduceEqDiff, Nat.reduceAdd, Int.reduceToNat, reduceCtorEq, Nat.reduceLeDiff, ↓u_diff_hunks, hx, ed_is, width_ed, one_rep, take_cl, map_cl_app]
        rw [chs_ch hx h0] at hch
        exact Rnd_cut (E.length - (i + 1)) 1 (by omega) (by simp) rfl rfl ⟨i + 1, v + 1, l ++ [i], rfl, by omega, by simp; omega, by rw [hch]; simp, by rw [List.length_append]; rfl, by rw [List.length_append]; rfl⟩
    · obtain rfl : i = E.length := by omega
      rw [chs_end (Nat.le_refl _), List.append_nil] at hch
      simp -dsimp (disch := first | assumption | omega | (simp only [List.length_set, List.length_append, List.length_cons, List.length_nil]; done) | (simp only [List.length_set, List.length_append, List.length_cons, List.length_nil]; omega)) only [↓vmPre, vmPost, vmWrd, vmDat, eq_self, forall_const, Nat.reduceLT, Nat.reduceEqDiff, Nat.reduceSub, Nat.reduceMul, Nat.reduceMod, Nat.reduceDiv, Nat.reducePow, UInt8.reduceToNat, Int.reduceEq, Int.reduceLT, Int.reduceLE, ↓reduceIte, Nat.reduceEqDiff, Nat.reduceAdd, Int.reduceToNat, reduceCtorEq, Nat.reduceLeDiff, ↓u_diff_hunks]
      have hl := chs_len E 0
      have hlt := chs_lt E 0
      have hge : ∀ y ∈ l, y < E.length := fun y hy => by have := (chs_ge E 0 y (hch ▸ hy)).2; omega
      rw [hch] at hl hlt ⊢
      refine w_loop (fun q e H => ∃ (off v2 : Nat) (hs : List (Nat × Nat)), q = l.length - off ∧ off ≤ l.length ∧ hs.length ≤ off ∧ hks c E.length l = hs ++ hks c E.length (l.drop off) ∧
        e = [(0, .sl 2 (E.map ed)), (1, i64 (c : Int)), (5, .os 3 1 v2 [] 0 hs.length hs.length), (6, .os 1 0 v [] off (l.length - off) (l.length - off))] ∧
        H = [.obj v (.arr l.length 1 (l.map cl)), .obj v2 (.arr hs.length 3 (hs.map (hkT E)))]) l.length ?_ ?_
      · exact ⟨0, 0, [], rfl, by omega, by simp, rfl, rfl, rfl⟩
      · rintro q e H ⟨off, v2, hs, rfl, hoff, hhs, hk, rfl, rfl⟩
        by_cases h : off < l.length
        · obtain ⟨x, hx⟩ : ∃ x, l[off]? = some x := ⟨_, List.getElem?_eq_getElem h⟩
          simp -dsimp (disch := first | assumption | omega | (simp only [List.length_set, List.length_append, List.length_cons, List.length_nil]; done) | (simp only [List.length_set, List.length_append, List.length_cons, List.length_nil]; omega)) only [↓vmPre, vmPost, vmWrd, vmDat, eq_self, forall_const, Nat.reduceLT, Nat.reduceEqDiff, Nat.reduceSub, Nat.reduceMul, Nat.reduceMod, Nat.reduceDiv, Nat.reducePow, UInt8.reduceToNat, Int.reduceEq, Int.reduceLT, Int.reduceLE, ↓reduceIte, Nat.reduceEqDiff, Nat.reduceAdd, Int.reduceToNat, reduceCtorEq, Nat.reduceLeDiff, ↓u_diff_hunks_L11_e, ↓u_diff_hunks_k10_e, ↓u_diff_hunks_k9_e]
          refine w_loop (fun q e H => ∃ (j last : Nat), q = l.length - off - j ∧ 0 < j ∧ off + j ≤ l.length ∧ l[off + (j - 1)]? = some last ∧ x ≤ last ∧ run c x (l.drop (off + 1)) = run c last (l.drop (off + j)) ∧
            e = [(0, .sl 2 (E.map ed)), (1, i64 (c : Int)), (5, .os 3 1 v2 [] 0 hs.length hs.length), (6, .os 1 0 v [] off (l.length - off) (l.length - off)), (9, i64 (j : Int))] ∧
            H = [.obj v (.arr l.length 1 (l.map cl)), .obj v2 (.arr hs.length 3 (hs.map (hkT E)))]) (l.length - off - 1) ?_ ?_
          · exact ⟨1, x, rfl, by omega, by omega, hx, Nat.le_refl _, rfl, rfl, rfl⟩
          · rintro q e H ⟨j, last, rfl, hj0, hj, hlast, hxl, hrun, rfl, rfl⟩
            have hle := hge last (List.mem_of_getElem? hlast)
            by_cases hj2 : off + j < l.length
            · obtain ⟨y, hy⟩ : ∃ y, l[off + j]? = some y := ⟨_, List.getElem?_eq_getElem hj2⟩
              have hly : last < y := by
                have h1 := List.pairwise_iff_getElem.1 hlt (off + (j - 1)) (off + j) (by omega) hj2 (by omega)
                obtain ⟨_, rfl⟩ := List.getElem?_eq_some_iff.1 hlast
                obtain ⟨_, rfl⟩ := List.getElem?_eq_some_iff.1 hy
                exact h1
              have hyE := hge y (List.mem_of_getElem? hy)
              by_cases hg : y ≤ last + 2 * c + 1
              · simp -dsimp (disch := first | assumption | omega | (simp only [List.length_set, List.length_append, List.length_cons, List.length_nil]; done) | (simp only [List.length_set, List.length_append, List.length_cons, List.length_nil]; omega)) only [↓vmPre, vmPost, vmWrd, vmDat, eq_self, forall_const, Nat.reduceLT, Nat.reduceEqDiff, Nat.reduceSub, Nat.reduceMul, Nat.reduceMod, Nat.reduceDiv, Nat.reducePow, UInt8.reduceToNat, Int.reduceEq, Int.reduceLT, Int.reduceLE, ↓reduceIte, Nat.reduceEqDiff, Nat.reduceAdd, Int.reduceToNat, reduceCtorEq, Nat.reduceLeDiff, ↓u_diff_hunks_L5_e, hx, hlast, hy, cl_is]
                refine Rnd_keep (l.length - off - (j + 1)) (by omega) (by simp) ⟨j + 1, y, rfl, by omega, by omega, by rw [Nat.add_sub_cancel]; exact hy, by omega, ?_, rfl, rfl⟩
                obtain ⟨h', rfl⟩ := List.getElem?_eq_some_iff.1 hy
                rw [hrun, List.drop_eq_getElem_cons h', run, if_pos hg]; rfl
              · have hst : run c last (l.drop (off + j)) = (last, l.drop (off + j)) := runs_stop fun z hz => by
                  rw [List.getElem?_drop, Nat.add_zero, hy] at hz; cases hz; omega
                simp -dsimp (disch := first | assumption | omega | (simp only [List.length_set, List.length_append, List.length_cons, List.length_nil]; done) | (simp only [List.length_set, List.length_append, List.length_cons, List.length_nil]; omega)) only [↓vmPre, vmPost, vmWrd, vmDat, eq_self, forall_const, Nat.reduceLT, Nat.reduceEqDiff, Nat.reduceSub, Nat.reduceMul, Nat.reduceMod, Nat.reduceDiv, Nat.reducePow, UInt8.reduceToNat, Int.reduceEq, Int.reduceLT, Int.reduceLE, ↓reduceIte, Nat.reduceEqDiff, Nat.reduceAdd, Int.reduceToNat, reduceCtorEq, Nat.reduceLeDiff, ↓u_diff_hunks_L5_e, hx, hlast, hy, cl_is]
                refine hunksTail hE hc (by omega) (by omega) hj0 hj hx hlast hxl hle fun o => ?_
                have hk2 : hks c E.length (l.drop off) = (x - c, min E.length (last + 1 + c)) :: hks c E.length (l.drop (off + j)) := by
                  obtain ⟨h', rfl⟩ := List.getElem?_eq_some_iff.1 hx
                  rw [List.drop_eq_getElem_cons h', hks, hrun, hst]
                rw [Blk_nor]
                exact Rnd_cut (l.length - (off + j)) 2 (by omega) (by simp) rfl rfl ⟨off + j, v2 + 1, hs ++ [(x - c, min E.length (last + 1 + c))], rfl, hj, by simp; omega, by rw [hk, hk2]; simp, by rw [List.length_append, Nat.sub_sub]; rfl, by rw [List.length_append]; rfl⟩
            · have hst : run c last (l.drop (off + j)) = (last, l.drop (off + j)) := runs_stop fun z hz => by
                rw [List.getElem?_drop, Nat.add_zero, List.getElem?_eq_none (by omega)] at hz; cases hz
              simp -dsimp (disch := first | assumption | omega | (simp only [List.length_set, List.length_append, List.length_cons, List.length_nil]; done) | (simp only [List.length_set, List.length_append, List.length_cons, List.length_nil]; omega)) only [↓vmPre, vmPost, vmWrd, vmDat, eq_self, forall_const, Nat.reduceLT, Nat.reduceEqDiff, Nat.reduceSub, Nat.reduceMul, Nat.reduceMod, Nat.reduceDiv, Nat.reducePow, UInt8.reduceToNat, Int.reduceEq, Int.reduceLT, Int.reduceLE, ↓reduceIte, Nat.reduceEqDiff, Nat.reduceAdd, Int.reduceToNat, reduceCtorEq, Nat.reduceLeDiff, ↓u_diff_hunks_L5_e, hx, hlast, cl_is]
              refine hunksTail hE hc (by omega) (by omega) hj0 hj hx hlast hxl hle fun o => ?_
              have hk2 : hks c E.length (l.drop off) = (x - c, min E.length (last + 1 + c)) :: hks c E.length (l.drop (off + j)) := by
                obtain ⟨h', rfl⟩ := List.getElem?_eq_some_iff.1 hx
                rw [List.drop_eq_getElem_cons h', hks, hrun, hst]
              rw [Blk_nor]
              exact Rnd_cut (l.length - (off + j)) 2 (by omega) (by simp) rfl rfl ⟨off + j, v2 + 1, hs ++ [(x - c, min E.length (last + 1 + c))], rfl, hj, by simp; omega, by rw [hk, hk2]; simp, by rw [List.length_append, Nat.sub_sub]; rfl, by rw [List.length_append]; rfl⟩
        · obtain rfl : off = l.length := by omega
          rw [List.drop_length, hks, List.append_nil] at hk
          simp -dsimp (disch := first | assumption | omega | (simp only [List.length_set, List.length_append, List.length_cons, List.length_nil]; done) | (simp only [List.length_set, List.length_append, List.length_cons, List.length_nil]; omega)) only [↓vmPre, vmPost, vmWrd, vmDat, eq_self, forall_const, Nat.reduceLT, Nat.reduceEqDiff, Nat.reduceSub, Nat.reduceMul, Nat.reduceMod, Nat.reduceDiv, Nat.reducePow, UInt8.reduceToNat, Int.reduceEq, Int.reduceLT, Int.reduceLE, ↓reduceIte, Nat.reduceEqDiff, Nat.reduceAdd, Int.reduceToNat, reduceCtorEq, Nat.reduceLeDiff, ↓u_diff_hunks]
          rw [hk]
end Go.Proofs.YtijidndhlgbjhaaDoor
