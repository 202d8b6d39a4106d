/- graph.grow: the nodes by their ids, and whether they are a graph. -/
import Derived.Test.YtknphdcjopaaoaaDoorVgMap
namespace Go.Proofs.YtknphdcjopaaoaaDoor
open Go.RowKit
set_option linter.unusedVariables false
set_option linter.unusedSimpArgs false

theorem width_ndT {n : Nd} : width (ndT n) = 22 := by rw [ndT_is]; rfl
theorem isTup_ndT {n : Nd} : isTup (ndT n) = false := by rw [ndT_is]; rfl
theorem lays_ndT {n : Nd} : lays (ndT n) = true := by rw [ndT_is]; rfl
theorem isAg_ndT {n : Nd} : isAg (ndT n) = true := by rw [ndT_is]; rfl
theorem drop_idT {cs : List TV} {off m : Nat} {x : List UInt8} {fr : List (List UInt8)} (h : (cs.drop off).take (m + 1) = (x :: fr).map idT) : cs[off]? = some (idT x) ∧ (cs.drop (off + 1)).take m = fr.map idT := by
  have h0 : ((cs.drop off).take (m + 1))[0]? = some (idT x) := by rw [h]; rfl
  rw [List.getElem?_take, if_pos (by omega), List.getElem?_drop, Nat.add_zero] at h0
  refine ⟨h0, ?_⟩
  have h1 := congrArg (List.drop 1) h
  rw [List.drop_take, List.drop_drop] at h1
  simpa using h1

theorem nodesM_below2 {l : List Nd} {n : Nd} {g : Nat} : belowL g ((mput n.id (TV.agg [TV.arr 20 1 (n.id.map by8), TV.sl 20 (n.ps.map idT), i64 n.tm]) (nodesM l)).map (·.2)) = true := (nodesM_below.put (x := TV.agg _) fun g => rfl) g
abbrev grownG : Ob := .obj 0 (.agg [.mp 0 0, .val (.map none)])
theorem growV (l : List Nd) (hl : l.length ≤ 1000) (hp : ∀ n ∈ l, n.ps.length ≤ 1000) : VCalls Tryd.prog 28 [.sl 22 (l.map ndT)] [] (fun x H' =>
    (GOk l → x = .tup [.op 1 0 [], .val .nilIface] ∧ ∃ es o, H' = [.mpo (.arr 20) (nodesM l), grownG, .mpo (.arr 20) es, o]) ∧ (¬ GOk l → x = .tup [.val (.pointer none), .ifc 30 (i64 ((80 : Nat) : Int))])) := by
  refine go_graph_grow (by simp) ?_
  simp -dsimp (disch := first | assumption | omega) only [↓vmPre, vmPost, vmWrd, vmDat, eq_self, forall_const, Nat.reduceLT, Nat.reduceEqDiff, Nat.reduceSub, Nat.reduceMul, Nat.reduceMod, Nat.reduceDiv, Nat.reducePow, UInt8.reduceToNat, Int.reduceEq, Int.reduceLT, Int.reduceLE, ↓reduceIte, Nat.reduceEqDiff, Nat.reduceAdd, Int.reduceToNat, reduceCtorEq, Nat.reduceLeDiff, ↓u_graph_grow]
  -- the nodes
  refine w_loop (fun q e H => ∃ i : Nat, q = l.length - i ∧ i ≤ l.length ∧ e = [(0, .sl 22 (l.map ndT)), (4, .op 1 0 []), (26, .sl 22 (l.map ndT)), (27, i64 (l.length : Int)), (28, i64 (i : Int))] ∧ H = [.mpo (.arr 20) (nodesM (l.take i)), grownG]) l.length ?_ ?_
  · exact ⟨0, by simp, by simp, rfl, by simp [nodesM]⟩
  · rintro q e H ⟨i, rfl, hi, rfl, rfl⟩
    by_cases h : i < l.length
    · have hg : l[i]? = some l[i] := List.getElem?_eq_getElem h
      have hsucc := List.take_succ_eq_append_getElem h
      generalize l[i] = n at *
      simp -dsimp (disch := first | assumption | omega) only [↓vmPre, vmPost, vmWrd, vmDat, eq_self, forall_const, Nat.reduceLT, Nat.reduceEqDiff, Nat.reduceSub, Nat.reduceMul, Nat.reduceMod, Nat.reduceDiv, Nat.reducePow, UInt8.reduceToNat, Int.reduceEq, Int.reduceLT, Int.reduceLE, ↓reduceIte, Nat.reduceEqDiff, Nat.reduceAdd, Int.reduceToNat, reduceCtorEq, Nat.reduceLeDiff, ↓u_graph_grow, hg, ndT_is]
      refine Rnd_cut (l.length - (i + 1)) 2 (by omega) (by simp) rfl (by simp [belowH, belowO, belowT, belowL, nodesM_below _, nodesM_below2]) ⟨i + 1, rfl, by omega, rfl, ?_⟩
      rw [hsucc, nodesM_snoc, ndT_is]; rfl
    · have hi2 : i = l.length := by omega
      rw [hi2, List.take_length]
      clear hi2 hi
      by_cases hn : (idsOf l).Nodup
      case neg =>
        have h1 := (nodesM_len (l := l)).1
        have h2 : ¬ (nodesM l).length = l.length := fun e => hn (nodesM_len.2.1.1 e)
        have h3 : (nodesM l).length < l.length := by omega
        have hno : ¬ GOk l := fun hok => hn hok.1.nodup
        simp -dsimp (disch := first | assumption | omega) only [↓vmPre, vmPost, vmWrd, vmDat, eq_self, forall_const, Nat.reduceLT, Nat.reduceEqDiff, Nat.reduceSub, Nat.reduceMul, Nat.reduceMod, Nat.reduceDiv, Nat.reducePow, UInt8.reduceToNat, Int.reduceEq, Int.reduceLT, Int.reduceLE, ↓reduceIte, Nat.reduceEqDiff, Nat.reduceAdd, Int.reduceToNat, reduceCtorEq, Nat.reduceLeDiff, ↓u_graph_grow]
        exact ⟨fun hok => absurd hok hno, by simp⟩
      have hlen : (nodesM l).length = l.length := nodesM_len.2.1.2 hn
      simp -dsimp (disch := first | assumption | omega) only [↓vmPre, vmPost, vmWrd, vmDat, eq_self, forall_const, Nat.reduceLT, Nat.reduceEqDiff, Nat.reduceSub, Nat.reduceMul, Nat.reduceMod, Nat.reduceDiv, Nat.reducePow, UInt8.reduceToNat, Int.reduceEq, Int.reduceLT, Int.reduceLE, ↓reduceIte, Nat.reduceEqDiff, Nat.reduceAdd, Int.reduceToNat, reduceCtorEq, Nat.reduceLeDiff, ↓u_graph_grow, hlen]
      -- who names whom
      refine w_loop (fun q e H => ∃ (i : Nat) (es : List (List UInt8 × TV)) (f : List UInt8 → Nat), q = l.length - i ∧ i ≤ l.length ∧ (CntF es f ∧ BelowM es) ∧ (∀ y, f y = ((l.take i).flatMap (·.ps)).count y) ∧ (∀ y, f y ≤ 1000 * i) ∧ (∀ n ∈ l.take i, ∀ p ∈ n.ps, p ∈ idsOf l) ∧
        e = [(0, .sl 22 (l.map ndT)), (4, .op 1 0 []), (7, .mp 2 0), (55, .sl 22 (l.map ndT)), (56, i64 (l.length : Int)), (57, i64 (i : Int))] ∧ H = [.mpo (.arr 20) (nodesM l), grownG, .mpo (.arr 20) es]) l.length ?_ ?_
      · exact ⟨0, [], fun _ => 0, by simp, by simp, ⟨CntF.nil, BelowM.nil⟩, by simp, by simp, by simp, rfl, rfl⟩
      · clear h i
        rintro q e H ⟨i, es, f, rfl, hi, ⟨hc, hbm⟩, hf, hb, hv, rfl, rfl⟩
        by_cases h : i < l.length
        · have hg : l[i]? = some l[i] := List.getElem?_eq_getElem h
          have hsucc := List.take_succ_eq_append_getElem h
          have hpi := hp l[i] (List.getElem_mem h)
          have hmem := List.getElem_mem h
          generalize l[i] = n at *
          simp -dsimp (disch := first | assumption | omega) only [↓vmPre, vmPost, vmWrd, vmDat, eq_self, forall_const, Nat.reduceLT, Nat.reduceEqDiff, Nat.reduceSub, Nat.reduceMul, Nat.reduceMod, Nat.reduceDiv, Nat.reducePow, UInt8.reduceToNat, Int.reduceEq, Int.reduceLT, Int.reduceLE, ↓reduceIte, Nat.reduceEqDiff, Nat.reduceAdd, Int.reduceToNat, reduceCtorEq, Nat.reduceLeDiff, ↓u_graph_grow, hg, ndT_is]
          refine w_loop (fun q e H => ∃ (k : Nat) (es : List (List UInt8 × TV)) (f' : List UInt8 → Nat), q = n.ps.length - k ∧ k ≤ n.ps.length ∧ (CntF es f' ∧ BelowM es) ∧ (∀ y, f' y = f y + (n.ps.take k).count y) ∧ (∀ y, f' y ≤ 1000 * i + k) ∧ (∀ p ∈ n.ps.take k, p ∈ idsOf l) ∧
            e = [(0, .sl 22 (l.map ndT)), (4, .op 1 0 []), (7, .mp 2 0), (55, .sl 22 (l.map ndT)), (56, i64 (l.length : Int)), (57, i64 (i : Int)), (62, .sl 20 (n.ps.map idT)), (63, i64 (n.ps.length : Int)), (64, i64 (k : Int))] ∧ H = [.mpo (.arr 20) (nodesM l), grownG, .mpo (.arr 20) es, .obj 0 (ndT n)]) n.ps.length ?_ ?_
          · exact ⟨0, es, f, by simp, by simp, ⟨hc, hbm⟩, by simp, by simpa using hb, by simp, rfl, by rw [ndT_is]⟩
          · clear hc hbm
            rintro q e H ⟨k, es, f', rfl, hk, ⟨hc, hbm⟩, hf2, hb2, hv2, rfl, rfl⟩
            by_cases h2 : k < n.ps.length
            · have hg2 : n.ps[k]? = some n.ps[k] := List.getElem?_eq_getElem h2
              have hsucc2 := List.take_succ_eq_append_getElem h2
              have hpm := List.getElem_mem h2
              generalize n.ps[k] = p at *
              have hcp := hc p
              have hbp := hb2 p
              by_cases hpl : p ∈ idsOf l
              · obtain ⟨m, hm, hme⟩ := List.mem_map.1 hpl
                have hlook : mget p (nodesM l) = some (ndT m) := by rw [← hme]; exact mget_node hn hm
                simp -dsimp (disch := first | assumption | omega) only [↓vmPre, vmPost, vmWrd, vmDat, eq_self, forall_const, Nat.reduceLT, Nat.reduceEqDiff, Nat.reduceSub, Nat.reduceMul, Nat.reduceMod, Nat.reduceDiv, Nat.reducePow, UInt8.reduceToNat, Int.reduceEq, Int.reduceLT, Int.reduceLE, ↓reduceIte, Nat.reduceEqDiff, Nat.reduceAdd, Int.reduceToNat, reduceCtorEq, Nat.reduceLeDiff, ↓u_graph_grow, hg2, idT_is, hlook, ndT_is, Option.isSome_some, Option.isSome_none]
                simp -dsimp (disch := first | assumption | omega) only [↓vmPre, vmPost, vmWrd, vmDat, eq_self, forall_const, Nat.reduceLT, Nat.reduceEqDiff, Nat.reduceSub, Nat.reduceMul, Nat.reduceMod, Nat.reduceDiv, Nat.reducePow, UInt8.reduceToNat, Int.reduceEq, Int.reduceLT, Int.reduceLE, ↓reduceIte, Nat.reduceEqDiff, Nat.reduceAdd, Int.reduceToNat, reduceCtorEq, Nat.reduceLeDiff, ↓u_graph_grow, hcp, mput_at, mput_set, pr1, pr2]
                refine Rnd_cut (n.ps.length - (k + 1)) 4 (by omega) (by simp) rfl (by simp [belowH, belowO, belowT, belowL, nodesM_below _, hbm _, ndT_is, idT_is, (hbm.put (x := .val (.int .i64 ((f' p : Nat) + 1 : Int))) fun g => rfl) 4]) ⟨k + 1, _, _, rfl, by omega, ⟨hc.put p (f' p + 1), hbm.put fun g => rfl⟩, fun y => ?_, fun y => ?_, fun y hy => ?_, rfl, by rw [ndT_is]; rfl⟩
                · rw [hsucc2, List.count_append, ← Nat.add_assoc, ← hf2 y]
                  by_cases e : p = y
                  · subst e; simp
                  · simp [e]
                · have := hb2 y
                  by_cases e : p = y
                  · subst e; simp; omega
                  · simp [e]; omega
                · rw [hsucc2, List.mem_append, List.mem_singleton] at hy
                  rcases hy with hy | rfl
                  · exact hv2 y hy
                  · exact hpl
              · have hlook := mget_none hpl hn
                have hno : ¬ GOk l := fun hok => hpl (hok.1.there n hmem p hpm)
                simp -dsimp (disch := first | assumption | omega) only [↓vmPre, vmPost, vmWrd, vmDat, eq_self, forall_const, Nat.reduceLT, Nat.reduceEqDiff, Nat.reduceSub, Nat.reduceMul, Nat.reduceMod, Nat.reduceDiv, Nat.reducePow, UInt8.reduceToNat, Int.reduceEq, Int.reduceLT, Int.reduceLE, ↓reduceIte, Nat.reduceEqDiff, Nat.reduceAdd, Int.reduceToNat, reduceCtorEq, Nat.reduceLeDiff, ↓u_graph_grow, hg2, idT_is, hlook, Option.isSome_some, Option.isSome_none]
                exact ⟨fun hok => absurd hok hno, by simp⟩
            · have hk2 : k = n.ps.length := by omega
              rw [hk2] at hf2 hv2
              rw [List.take_length] at hv2
              simp -dsimp (disch := first | assumption | omega) only [↓vmPre, vmPost, vmWrd, vmDat, eq_self, forall_const, Nat.reduceLT, Nat.reduceEqDiff, Nat.reduceSub, Nat.reduceMul, Nat.reduceMod, Nat.reduceDiv, Nat.reducePow, UInt8.reduceToNat, Int.reduceEq, Int.reduceLT, Int.reduceLE, ↓reduceIte, Nat.reduceEqDiff, Nat.reduceAdd, Int.reduceToNat, reduceCtorEq, Nat.reduceLeDiff, ↓u_graph_grow]
              refine Rnd_cut (l.length - (i + 1)) 3 (by omega) (by simp) rfl (by simp [belowH, belowO, belowT, belowL, nodesM_below _, hbm _, ndT_is, idT_is]) ⟨i + 1, es, f', rfl, by omega, ⟨hc, hbm⟩, fun y => ?_, fun y => by have := hb2 y; omega, fun m hm p hp' => ?_, rfl, rfl⟩
              · rw [hf2 y, hsucc, List.take_length, hf y]; simp
              · rw [hsucc, List.mem_append, List.mem_singleton] at hm
                rcases hm with hm | rfl
                · exact hv m hm p hp'
                · exact hv2 p hp'
        · have hi2 : i = l.length := by omega
          rw [hi2, List.take_length] at hf hv
          clear hi2 hi hb
          have hV : Valid l := ⟨hn, hv⟩
          replace hf : ∀ y, f y = kids l [] y := fun y => by rw [hf y, kids_nil]
          replace hc : CntF es (kids l []) := hc.congr fun y => (hf y).symm
          clear hf hv
          have hkb := fun d y => kids_le hp d y
          simp -dsimp (disch := first | assumption | omega) only [↓vmPre, vmPost, vmWrd, vmDat, eq_self, forall_const, Nat.reduceLT, Nat.reduceEqDiff, Nat.reduceSub, Nat.reduceMul, Nat.reduceMod, Nat.reduceDiv, Nat.reducePow, UInt8.reduceToNat, Int.reduceEq, Int.reduceLT, Int.reduceLE, ↓reduceIte, Nat.reduceEqDiff, Nat.reduceAdd, Int.reduceToNat, reduceCtorEq, Nat.reduceLeDiff, ↓u_graph_grow]
          -- those that are free at first
          refine w_loop (fun q e H => ∃ (i v : Nat) (fr : List (List UInt8)), q = l.length - i ∧ i ≤ l.length ∧ fr = (idsOf (l.take i)).filter (fun y => decide (kids l [] y = 0)) ∧ fr.length ≤ i ∧
            e = [(0, .sl 22 (l.map ndT)), (4, .op 1 0 []), (7, .mp 2 0), (14, .os 20 3 v [] 0 fr.length fr.length), (88, .sl 22 (l.map ndT)), (89, i64 (l.length : Int)), (90, i64 (i : Int))] ∧ H = [.mpo (.arr 20) (nodesM l), grownG, .mpo (.arr 20) es, .obj v (.arr fr.length 20 (fr.map idT))]) l.length ?_ ?_
          · exact ⟨0, 0, [], by simp, by simp, by simp [idsOf], by simp, rfl, rfl⟩
          · clear h i
            rintro q e H ⟨i, v, fr, rfl, hi, hfr, hfl, rfl, rfl⟩
            by_cases h : i < l.length
            · have hg : l[i]? = some l[i] := List.getElem?_eq_getElem h
              have hsucc := List.take_succ_eq_append_getElem h
              generalize l[i] = n at *
              have hcp := hc n.id
              have hkn := hkb [] n.id
              have hfs : (idsOf (l.take (i + 1))).filter (fun y => decide (kids l [] y = 0)) = fr ++ (if kids l [] n.id = 0 then [n.id] else []) := by
                rw [hsucc, hfr]
                simp only [idsOf, List.map_append, List.filter_append, List.map_cons, List.map_nil]
                congr 1
                by_cases h0 : kids l [] n.id = 0 <;> simp [h0]
              by_cases h0 : kids l [] n.id = 0
              · rw [if_pos h0] at hfs
                rw [h0] at hcp
                have htk : (fr.map idT).take fr.length = fr.map idT := take_mapT rfl
                simp -dsimp (disch := first | assumption | omega) only [↓vmPre, vmPost, vmWrd, vmDat, eq_self, forall_const, Nat.reduceLT, Nat.reduceEqDiff, Nat.reduceSub, Nat.reduceMul, Nat.reduceMod, Nat.reduceDiv, Nat.reducePow, UInt8.reduceToNat, Int.reduceEq, Int.reduceLT, Int.reduceLE, ↓reduceIte, Nat.reduceEqDiff, Nat.reduceAdd, Int.reduceToNat, reduceCtorEq, Nat.reduceLeDiff, ↓u_graph_grow, hg, ndT_is, hcp, one_set, take_one', htk, map_idT_app]
                refine Rnd_cut (l.length - (i + 1)) 4 (by omega) (by simp) rfl (by simp [belowH, belowO, belowT, belowL, nodesM_below _, hbm _, ndT_is, idT_is]) ⟨i + 1, v + 1, fr ++ [n.id], rfl, by omega, hfs.symm, by simp; omega, by simp [forget, get], by simp⟩
              · rw [if_neg h0, List.append_nil] at hfs
                simp -dsimp (disch := first | assumption | omega) only [↓vmPre, vmPost, vmWrd, vmDat, eq_self, forall_const, Nat.reduceLT, Nat.reduceEqDiff, Nat.reduceSub, Nat.reduceMul, Nat.reduceMod, Nat.reduceDiv, Nat.reducePow, UInt8.reduceToNat, Int.reduceEq, Int.reduceLT, Int.reduceLE, ↓reduceIte, Nat.reduceEqDiff, Nat.reduceAdd, Int.reduceToNat, reduceCtorEq, Nat.reduceLeDiff, ↓u_graph_grow, hg, ndT_is, hcp]
                refine Rnd_cut (l.length - (i + 1)) 4 (by omega) (by simp) rfl (by simp [belowH, belowO, belowT, belowL, nodesM_below _, hbm _, ndT_is, idT_is]) ⟨i + 1, v, fr, rfl, by omega, hfs.symm, by omega, rfl, rfl⟩
            · have hi2 : i = l.length := by omega
              rw [hi2, List.take_length] at hfr
              have hK : Kahn l [] fr (kids l []) := ⟨.nil, by rw [hfr]; exact hn.filter _, fun y => by rw [hfr]; simp [List.mem_filter], by simp⟩
              clear hi2 hfr hfl hi
              simp -dsimp (disch := first | assumption | omega) only [↓vmPre, vmPost, vmWrd, vmDat, eq_self, forall_const, Nat.reduceLT, Nat.reduceEqDiff, Nat.reduceSub, Nat.reduceMul, Nat.reduceMod, Nat.reduceDiv, Nat.reducePow, UInt8.reduceToNat, Int.reduceEq, Int.reduceLT, Int.reduceLE, ↓reduceIte, Nat.reduceEqDiff, Nat.reduceAdd, Int.reduceToNat, reduceCtorEq, Nat.reduceLeDiff, ↓u_graph_grow]
              -- coming free
              refine w_loop (fun q e H => ∃ (d fr : List (List UInt8)) (es : List (List UInt8 × TV)) (off n v cp : Nat) (cs : List TV), q = l.length - d.length ∧ Kahn l d fr (kids l d) ∧ (CntF es (kids l d) ∧ BelowM es) ∧ (cs.drop off).take fr.length = fr.map idT ∧ off + fr.length ≤ cs.length ∧ fr.length ≤ cp ∧
                e = [(0, .sl 22 (l.map ndT)), (4, .op 1 0 []), (7, .mp 2 0), (14, .os 20 3 v [] off fr.length cp), (17, i64 (d.length : Int))] ∧ H = [.mpo (.arr 20) (nodesM l), grownG, .mpo (.arr 20) es, .obj v (.arr n 20 cs)]) l.length ?_ ?_
              · exact ⟨[], fr, es, 0, fr.length, v, fr.length, fr.map idT, by simp, hK, ⟨hc, hbm⟩, by rw [List.drop_zero]; exact take_mapT rfl, by simp, by simp, rfl, rfl⟩
              · clear hK hc h hbm
                rintro q e H ⟨d, fr, es, off, N, v, cp, cs, rfl, hK, ⟨hc, hbm⟩, hcs, hol, hcl, rfl, rfl⟩
                have hdl := hK.ord.le
                cases fr with
                | nil =>
                  clear hcs hol hcl
                  have hfin := hK.none hV
                  by_cases hd : d.length = l.length
                  · have hok : GOk l := ⟨hV, hfin.1 hd⟩
                    simp -dsimp (disch := first | assumption | omega) only [↓vmPre, vmPost, vmWrd, vmDat, eq_self, forall_const, Nat.reduceLT, Nat.reduceEqDiff, Nat.reduceSub, Nat.reduceMul, Nat.reduceMod, Nat.reduceDiv, Nat.reducePow, UInt8.reduceToNat, Int.reduceEq, Int.reduceLT, Int.reduceLE, ↓reduceIte, Nat.reduceEqDiff, Nat.reduceAdd, Int.reduceToNat, reduceCtorEq, Nat.reduceLeDiff, ↓u_graph_grow]
                    exact ⟨fun _ => ⟨es, _, rfl⟩, fun hno => absurd hok hno⟩
                  · have hno : ¬ GOk l := fun hok => hd (hfin.2 hok.2)
                    simp -dsimp (disch := first | assumption | omega) only [↓vmPre, vmPost, vmWrd, vmDat, eq_self, forall_const, Nat.reduceLT, Nat.reduceEqDiff, Nat.reduceSub, Nat.reduceMul, Nat.reduceMod, Nat.reduceDiv, Nat.reducePow, UInt8.reduceToNat, Int.reduceEq, Int.reduceLT, Int.reduceLE, ↓reduceIte, Nat.reduceEqDiff, Nat.reduceAdd, Int.reduceToNat, reduceCtorEq, Nat.reduceLeDiff, ↓u_graph_grow]
                    exact ⟨fun hok => absurd hok hno, by simp⟩
                | cons x fr =>
                  obtain ⟨hx1, hx2, hx3⟩ := (hK.free x).1 (by simp)
                  obtain ⟨n, hnl, rfl⟩ := List.mem_map.1 hx1
                  have hlook := mget_node hn hnl
                  obtain ⟨hc0, hcs⟩ := drop_idT hcs
                  rw [idT_is] at hc0
                  rw [List.length_cons] at hol hcl
                  have hT := hK.take hV hnl
                  have hd1 : d.length + 1 ≤ l.length := by have := hT.ord.le; simpa using this
                  have hpi := hp n hnl
                  replace hc : CntF es (fun y => kids l (d ++ [n.id]) y + n.ps.count y) := hc.congr fun y => (kids_add hn hnl hx2 y).symm
                  simp -dsimp (disch := first | assumption | omega) only [↓vmPre, vmPost, vmWrd, vmDat, eq_self, forall_const, Nat.reduceLT, Nat.reduceEqDiff, Nat.reduceSub, Nat.reduceMul, Nat.reduceMod, Nat.reduceDiv, Nat.reducePow, UInt8.reduceToNat, Int.reduceEq, Int.reduceLT, Int.reduceLE, ↓reduceIte, Nat.reduceEqDiff, Nat.reduceAdd, Int.reduceToNat, reduceCtorEq, Nat.reduceLeDiff, ↓u_graph_grow, hc0, hlook, ndT_is, Nat.add_zero]
                  refine w_loop (fun q e H => ∃ (k : Nat) (fr : List (List UInt8)) (es : List (List UInt8 × TV)) (f : List UInt8 → Nat) (off N v cp : Nat) (cs : List TV), q = n.ps.length - k ∧ k ≤ n.ps.length ∧ Kahn l (d ++ [n.id]) fr f ∧ (∀ y, f y = kids l (d ++ [n.id]) y + (n.ps.drop k).count y) ∧ (CntF es f ∧ BelowM es) ∧
                    (cs.drop off).take fr.length = fr.map idT ∧ off + fr.length ≤ cs.length ∧ fr.length ≤ cp ∧
                    e = [(0, .sl 22 (l.map ndT)), (4, .op 1 0 []), (7, .mp 2 0), (14, .os 20 3 v [] off fr.length cp), (17, i64 (d.length : Int)), (121, .sl 20 (n.ps.map idT)), (122, i64 (n.ps.length : Int)), (123, i64 (k : Int))] ∧
                    H = [.mpo (.arr 20) (nodesM l), grownG, .mpo (.arr 20) es, .obj v (.arr N 20 cs), .obj 0 (ndT n)]) n.ps.length ?_ ?_
                  · exact ⟨0, fr, es, _, off + 1, N, v, cp - 1, cs, by simp, by simp, hT, by simp, ⟨hc, hbm⟩, hcs, by omega, by omega, rfl, by rw [ndT_is]⟩
                  · clear hc hbm hcs hol hcl hc0 hT hK
                    rintro q e H ⟨k, fr, es, f, off, N, v, cp, cs, rfl, hk, hK, hf, ⟨hc, hbm⟩, hcs, hol, hcl, rfl, rfl⟩
                    by_cases h2 : k < n.ps.length
                    · have hg2 : n.ps[k]? = some n.ps[k] := List.getElem?_eq_getElem h2
                      have hdrop := List.drop_eq_getElem_cons h2
                      have hpm := List.getElem_mem h2
                      generalize n.ps[k] = p at *
                      have hcp := hc p
                      have hkp := hkb (d ++ [n.id]) p
                      have hcnt : (n.ps.drop k).count p ≤ n.ps.length := Nat.le_trans List.count_le_length (by simp)
                      have hfp := hf p
                      have hf1 : 1 ≤ f p := by rw [hfp, hdrop]; simp; omega
                      have hfr1 : fr.length ≤ l.length := by
                        have := len_sub hK.nodup (e := idsOf l) fun y hy => ((hK.free y).1 hy).1
                        simpa [idsOf] using this
                      have hD := hK.drop (hV.there n hnl p hpm) (by omega)
                      have hc' := hc.put p (f p - 1)
                      have hf' : ∀ y, (if p = y then f p - 1 else f y) = kids l (d ++ [n.id]) y + (n.ps.drop (k + 1)).count y := by
                        intro y
                        have h9 := hf y
                        rw [hdrop, List.count_cons] at h9
                        by_cases e : p = y
                        · subst e; simp at h9 ⊢; omega
                        · simp [e] at h9 ⊢; omega
                      by_cases h0 : f p = 1
                      · rw [if_pos h0] at hD
                        rw [h0] at hcp hc'
                        have hcp2 : (mget p (mput p (i64 (((1 : Nat) - 1 : Nat) : Int)) es)).getD (i64 ((0 : Nat) : Int)) = i64 ((0 : Nat) : Int) := by rw [mgetM, if_pos rfl]; rfl
                        have hoff : (cs.drop off).take fr.length = fr.map idT := hcs
                        simp -dsimp (disch := first | assumption | omega) only [↓vmPre, vmPost, vmWrd, vmDat, eq_self, forall_const, Nat.reduceLT, Nat.reduceEqDiff, Nat.reduceSub, Nat.reduceMul, Nat.reduceMod, Nat.reduceDiv, Nat.reducePow, UInt8.reduceToNat, Int.reduceEq, Int.reduceLT, Int.reduceLE, ↓reduceIte, Nat.reduceEqDiff, Nat.reduceAdd, Int.reduceToNat, reduceCtorEq, Nat.reduceLeDiff, ↓u_graph_grow, hg2, idT_is, hcp, hcp2, one_set, take_one', hoff, map_idT_app, mput_at, mput_set, pr1, pr2]
                        have hc0 : CntF (mput p (i64 ((0 : Nat) : Int)) es) (fun y => if p = y then f p - 1 else f y) := by rw [h0]; exact hc'
                        refine Rnd_cut (n.ps.length - (k + 1)) 5 (by omega) (by simp) rfl (by simp [belowH, belowO, belowT, belowL, nodesM_below _, ndT_is, idT_is, (hbm.put (x := .val (.int .i64 0)) fun g => rfl) 5]) ⟨k + 1, fr ++ [p], mput p (i64 ((0 : Nat) : Int)) es, _, 0, fr.length + 1, v + 1, fr.length + 1, (fr ++ [p]).map idT, rfl, by omega, hD, hf', ⟨hc0, hbm.put fun g => rfl⟩, ?_, ?_, ?_, ?_, rfl⟩
                        · rw [List.drop_zero]; exact take_mapT rfl
                        · simp
                        · simp
                        · simp [forget, get]
                      · rw [if_neg h0] at hD
                        have hcp2 : (mget p (mput p (i64 ((f p - 1 : Nat) : Int)) es)).getD (i64 ((0 : Nat) : Int)) = i64 ((f p - 1 : Nat) : Int) := by rw [mgetM, if_pos rfl]; rfl
                        simp -dsimp (disch := first | assumption | omega) only [↓vmPre, vmPost, vmWrd, vmDat, eq_self, forall_const, Nat.reduceLT, Nat.reduceEqDiff, Nat.reduceSub, Nat.reduceMul, Nat.reduceMod, Nat.reduceDiv, Nat.reducePow, UInt8.reduceToNat, Int.reduceEq, Int.reduceLT, Int.reduceLE, ↓reduceIte, Nat.reduceEqDiff, Nat.reduceAdd, Int.reduceToNat, reduceCtorEq, Nat.reduceLeDiff, ↓u_graph_grow, hg2, idT_is, hcp, hcp2, mput_at, mput_set, pr1, pr2]
                        refine Rnd_cut (n.ps.length - (k + 1)) 5 (by omega) (by simp) rfl (by simp [belowH, belowO, belowT, belowL, nodesM_below _, ndT_is, idT_is, hol, (hbm.put (x := .val (.int .i64 ((f p - 1 : Nat) : Int))) fun g => rfl) 5]) ⟨k + 1, fr, _, _, off, N, v, cp, cs, rfl, by omega, hD, hf', ⟨hc', hbm.put fun g => rfl⟩, hcs, hol, hcl, rfl, rfl⟩
                    · have hk2 : k = n.ps.length := by omega
                      rw [hk2, List.drop_length] at hf
                      have hfe : ∀ y, kids l (d ++ [n.id]) y = f y := fun y => by rw [hf y]; simp
                      simp -dsimp (disch := first | assumption | omega) only [↓vmPre, vmPost, vmWrd, vmDat, eq_self, forall_const, Nat.reduceLT, Nat.reduceEqDiff, Nat.reduceSub, Nat.reduceMul, Nat.reduceMod, Nat.reduceDiv, Nat.reducePow, UInt8.reduceToNat, Int.reduceEq, Int.reduceLT, Int.reduceLE, ↓reduceIte, Nat.reduceEqDiff, Nat.reduceAdd, Int.reduceToNat, reduceCtorEq, Nat.reduceLeDiff, ↓u_graph_grow]
                      refine Rnd_cut (l.length - (d.length + 1)) 4 (by omega) (by simp) rfl (by simp [belowH, belowO, belowT, belowL, nodesM_below _, hbm _, ndT_is, idT_is]) ⟨d ++ [n.id], fr, es, off, N, v, cp, cs, by simp, hK.congr hfe, ⟨hc.congr hfe, hbm⟩, hcs, hol, hcl, by simp [forget, get], rfl⟩
end Go.Proofs.YtknphdcjopaaoaaDoor
