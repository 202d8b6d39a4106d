/- GraphOrdersCard: the law, proved out of contracts of the functions that it reaches (texts merged; names shortened by a program). No condition is laid on it. -/
import Derived.Test.YtingoaihnlhiaaaDoorQF
import Derived.SevenTiedAt
import Derived.Test.YtingoaihnlhiaaaDoorCards
import Derived.Test.YtingoaihnlhiaaaDoorTie
import Derived.Test.YtingoaihnlhiaaaDoorRows
import Derived.Test.YtingoaihnlhiaaaDoorProg
import Derived.WalkKit
import Derived.ProofKit
import Derived.OpenShut
import Derived.ShutString
import Derived.ChangeOld
import Derived.Below
import Derived.SizedLaws
import Derived.ChangeVars
import Derived.LaidLaws
import Derived.LaidHandle
import Derived.Stop.Joined
import Derived.ClosedOfChecked
import Derived.Test.YtingoaihnlhiaaaDoorQD
namespace Go.Proofs.YtingoaihnlhiaaaDoor
open Go.RowKit
variable [A7] [Df]
set_option linter.unusedSectionVars false
set_option linter.unusedVariables false
set_option linter.unusedSimpArgs false

set_option maxRecDepth 100000 in
/-- Ids that came in: not too many. -/
theorem ZN : IV Tryd.prog 23 (fun l : List (List UInt8) => .sl 20 (l.map idT)) (fun l => (∀ x ∈ l, x.length = 20) ∧ l.length * 20 ≤ 140737488351232) :=
 Ir (Qk (k := 20) (B := 20) Tryd.underlying23 (by kernel_rfl) (by kernel_rfl) (ZB Tryd.underlying40 (by kernel_rfl)) (fun a _ => FQ) (by decide)) fun l h => ⟨l, rfl, h.1, h.2.1⟩
theorem Af8 (l : List Nd) (a b : List (List UInt8)) (h20 : ∀ n ∈ l, n.id.length = 20) (ha : a.length * 20 ≤ 140737488351232) (hb : b.length * 20 ≤ 140737488351232) : Et Tryd.prog 3 [.sl 22 (l.map ndT), .sl 20 (a.map idT), .sl 20 (b.map idT)] (fun r => r = tb true) := by
 refine Aq.toPureV (Uw (by simp) ?_)
 simp -dsimp (disch := first | assumption | omega | (simp only [Ae]; done) | (simp only [Ae]; omega)) only [↓Ag, Ad, Ai, Ah, eq_self, forall_const, Nat.reduceLT, Nat.reduceEqDiff, Nat.reduceSub, Nat.reduceMul, Nat.reduceMod, Nat.reduceDiv, Nat.reducePow, UInt8.reduceToNat, Int.reduceEq, Int.reduceLT, Int.reduceLE, ↓reduceIte, Nat.reduceAdd, Int.reduceToNat, reduceCtorEq, Nat.reduceLeDiff, ↓Ap]
 refine (A3f l).calls rfl ?_
 rintro _ rfl
 cases hf : Aiv l with
 | false => simp -dsimp (disch := first | assumption | omega | (simp only [Ae]; done) | (simp only [Ae]; omega)) only [↓Ag, Ad, Ai, Ah, eq_self, forall_const, Nat.reduceLT, Nat.reduceEqDiff, Nat.reduceSub, Nat.reduceMul, Nat.reduceMod, Nat.reduceDiv, Nat.reducePow, UInt8.reduceToNat, Int.reduceEq, Int.reduceLT, Int.reduceLE, ↓reduceIte, Nat.reduceAdd, Int.reduceToNat, reduceCtorEq, Nat.reduceLeDiff, ↓Ap]
 | true =>
  obtain ⟨hl, hp⟩ := Ahb hf
  have hp' : ∀ n ∈ l, n.ps.length ≤ 1000 := fun n hn => Nat.le_trans (hp n hn) (by omega)
  by_cases hs : a.length + b.length ≤ 40
  case neg => simp -dsimp (disch := first | assumption | omega | (simp only [Ae]; done) | (simp only [Ae]; omega)) only [↓Ag, Ad, Ai, Ah, eq_self, forall_const, Nat.reduceLT, Nat.reduceEqDiff, Nat.reduceSub, Nat.reduceMul, Nat.reduceMod, Nat.reduceDiv, Nat.reducePow, UInt8.reduceToNat, Int.reduceEq, Int.reduceLT, Int.reduceLE, ↓reduceIte, Nat.reduceAdd, Int.reduceToNat, reduceCtorEq, Nat.reduceLeDiff, ↓Ap]
  simp -dsimp (disch := first | assumption | omega | (simp only [Ae]; done) | (simp only [Ae]; omega)) only [↓Ag, Ad, Ai, Ah, eq_self, forall_const, Nat.reduceLT, Nat.reduceEqDiff, Nat.reduceSub, Nat.reduceMul, Nat.reduceMod, Nat.reduceDiv, Nat.reducePow, UInt8.reduceToNat, Int.reduceEq, Int.reduceLT, Int.reduceLE, ↓reduceIte, Nat.reduceAdd, Int.reduceToNat, reduceCtorEq, Nat.reduceLeDiff, ↓Ap]
  refine (AmV l (by omega) hp' h20 a b (by omega) (by omega)).calls rfl fun r hr => ?_
  by_cases hok : AcD l (a ++ b)
  ·obtain ⟨ids, rfl, hi, hil⟩ := hr.1 hok
   simp -dsimp (disch := first | assumption | omega | (simp only [Ae]; done) | (simp only [Ae]; omega)) only [↓Ag, Ad, Ai, Ah, eq_self, forall_const, Nat.reduceLT, Nat.reduceEqDiff, Nat.reduceSub, Nat.reduceMul, Nat.reduceMod, Nat.reduceDiv, Nat.reducePow, UInt8.reduceToNat, Int.reduceEq, Int.reduceLT, Int.reduceLE, ↓reduceIte, Nat.reduceAdd, Int.reduceToNat, reduceCtorEq, Nat.reduceLeDiff, ↓Ap]
   refine (Ahu l (by omega) hp').calls rfl fun r hr => ?_
   subst hr
   simp -dsimp (disch := first | assumption | omega | (simp only [Ae]; done) | (simp only [Ae]; omega)) only [↓Ag, Ad, Ai, Ah, eq_self, forall_const, Nat.reduceLT, Nat.reduceEqDiff, Nat.reduceSub, Nat.reduceMul, Nat.reduceMod, Nat.reduceDiv, Nat.reducePow, UInt8.reduceToNat, Int.reduceEq, Int.reduceLT, Int.reduceLE, ↓reduceIte, Nat.reduceAdd, Int.reduceToNat, reduceCtorEq, Nat.reduceLeDiff, ↓Ap]
   refine (Ab0 a (by omega)).calls rfl fun r hr => ?_
   subst hr
   simp -dsimp (disch := first | assumption | omega | (simp only [Ae]; done) | (simp only [Ae]; omega)) only [↓Ag, Ad, Ai, Ah, eq_self, forall_const, Nat.reduceLT, Nat.reduceEqDiff, Nat.reduceSub, Nat.reduceMul, Nat.reduceMod, Nat.reduceDiv, Nat.reducePow, UInt8.reduceToNat, Int.reduceEq, Int.reduceLT, Int.reduceLE, ↓reduceIte, Nat.reduceAdd, Int.reduceToNat, reduceCtorEq, Nat.reduceLeDiff, ↓Ap]
   refine (Ab0 b (by omega)).calls rfl fun r hr => ?_
   subst hr
   simp -dsimp (disch := first | assumption | omega | (simp only [Ae]; done) | (simp only [Ae]; omega)) only [↓Ag, Ad, Ai, Ah, eq_self, forall_const, Nat.reduceLT, Nat.reduceEqDiff, Nat.reduceSub, Nat.reduceMul, Nat.reduceMod, Nat.reduceDiv, Nat.reducePow, UInt8.reduceToNat, Int.reduceEq, Int.reduceLT, Int.reduceLE, ↓reduceIte, Nat.reduceAdd, Int.reduceToNat, reduceCtorEq, Nat.reduceLeDiff, ↓Ap]
   refine (AhJ l (by omega) hp' h20 a b (by omega) (by omega)).calls rfl fun r hr => ?_
   obtain ⟨ids2, rfl, hi2, _⟩ := hr.1 hok
   obtain rfl := hi.uniq hi2
   simp -dsimp (disch := first | assumption | omega | (simp only [Ae]; done) | (simp only [Ae]; omega)) only [↓Ag, Ad, Ai, Ah, eq_self, forall_const, Nat.reduceLT, Nat.reduceEqDiff, Nat.reduceSub, Nat.reduceMul, Nat.reduceMod, Nat.reduceDiv, Nat.reducePow, UInt8.reduceToNat, Int.reduceEq, Int.reduceLT, Int.reduceLE, ↓reduceIte, Nat.reduceAdd, Int.reduceToNat, reduceCtorEq, Nat.reduceLeDiff, ↓Ap]
   refine (Arr ids (by omega)).calls rfl fun r hr => ?_
   subst hr
   simp -dsimp (disch := first | assumption | omega | (simp only [Ae]; done) | (simp only [Ae]; omega)) only [↓Ag, Ad, Ai, Ah, eq_self, forall_const, Nat.reduceLT, Nat.reduceEqDiff, Nat.reduceSub, Nat.reduceMul, Nat.reduceMod, Nat.reduceDiv, Nat.reducePow, UInt8.reduceToNat, Int.reduceEq, Int.reduceLT, Int.reduceLE, ↓reduceIte, Nat.reduceAdd, Int.reduceToNat, reduceCtorEq, Nat.reduceLeDiff, ↓Ap]
   refine ArE.calls rfl fun r hr => ?_
   subst hr
   simp -dsimp (disch := first | assumption | omega | (simp only [Ae]; done) | (simp only [Ae]; omega)) only [↓Ag, Ad, Ai, Ah, eq_self, forall_const, Nat.reduceLT, Nat.reduceEqDiff, Nat.reduceSub, Nat.reduceMul, Nat.reduceMod, Nat.reduceDiv, Nat.reducePow, UInt8.reduceToNat, Int.reduceEq, Int.reduceLT, Int.reduceLE, ↓reduceIte, Nat.reduceAdd, Int.reduceToNat, reduceCtorEq, Nat.reduceLeDiff, ↓Ap]
  ·rw [hr.2 hok]
   simp -dsimp (disch := first | assumption | omega | (simp only [Ae]; done) | (simp only [Ae]; omega)) only [↓Ag, Ad, Ai, Ah, eq_self, forall_const, Nat.reduceLT, Nat.reduceEqDiff, Nat.reduceSub, Nat.reduceMul, Nat.reduceMod, Nat.reduceDiv, Nat.reducePow, UInt8.reduceToNat, Int.reduceEq, Int.reduceLT, Int.reduceLE, ↓reduceIte, Nat.reduceAdd, Int.reduceToNat, reduceCtorEq, Nat.reduceLeDiff, ↓Ap]
   refine (Ahu l (by omega) hp').calls rfl fun r hr => ?_
   subst hr
   simp -dsimp (disch := first | assumption | omega | (simp only [Ae]; done) | (simp only [Ae]; omega)) only [↓Ag, Ad, Ai, Ah, eq_self, forall_const, Nat.reduceLT, Nat.reduceEqDiff, Nat.reduceSub, Nat.reduceMul, Nat.reduceMod, Nat.reduceDiv, Nat.reducePow, UInt8.reduceToNat, Int.reduceEq, Int.reduceLT, Int.reduceLE, ↓reduceIte, Nat.reduceAdd, Int.reduceToNat, reduceCtorEq, Nat.reduceLeDiff, ↓Ap]
   refine (Ab0 a (by omega)).calls rfl fun r hr => ?_
   subst hr
   simp -dsimp (disch := first | assumption | omega | (simp only [Ae]; done) | (simp only [Ae]; omega)) only [↓Ag, Ad, Ai, Ah, eq_self, forall_const, Nat.reduceLT, Nat.reduceEqDiff, Nat.reduceSub, Nat.reduceMul, Nat.reduceMod, Nat.reduceDiv, Nat.reducePow, UInt8.reduceToNat, Int.reduceEq, Int.reduceLT, Int.reduceLE, ↓reduceIte, Nat.reduceAdd, Int.reduceToNat, reduceCtorEq, Nat.reduceLeDiff, ↓Ap]
   refine (Ab0 b (by omega)).calls rfl fun r hr => ?_
   subst hr
   simp -dsimp (disch := first | assumption | omega | (simp only [Ae]; done) | (simp only [Ae]; omega)) only [↓Ag, Ad, Ai, Ah, eq_self, forall_const, Nat.reduceLT, Nat.reduceEqDiff, Nat.reduceSub, Nat.reduceMul, Nat.reduceMod, Nat.reduceDiv, Nat.reducePow, UInt8.reduceToNat, Int.reduceEq, Int.reduceLT, Int.reduceLE, ↓reduceIte, Nat.reduceAdd, Int.reduceToNat, reduceCtorEq, Nat.reduceLeDiff, ↓Ap]
   refine (AhJ l (by omega) hp' h20 a b (by omega) (by omega)).calls rfl fun r hr => ?_
   rw [hr.2 hok]
   simp -dsimp (disch := first | assumption | omega | (simp only [Ae]; done) | (simp only [Ae]; omega)) only [↓Ag, Ad, Ai, Ah, eq_self, forall_const, Nat.reduceLT, Nat.reduceEqDiff, Nat.reduceSub, Nat.reduceMul, Nat.reduceMod, Nat.reduceDiv, Nat.reducePow, UInt8.reduceToNat, Int.reduceEq, Int.reduceLT, Int.reduceLE, ↓reduceIte, Nat.reduceAdd, Int.reduceToNat, reduceCtorEq, Nat.reduceLeDiff, ↓Ap]
   refine Ar7.calls rfl fun r hr => ?_
   subst hr
   simp -dsimp (disch := first | assumption | omega | (simp only [Ae]; done) | (simp only [Ae]; omega)) only [↓Ag, Ad, Ai, Ah, eq_self, forall_const, Nat.reduceLT, Nat.reduceEqDiff, Nat.reduceSub, Nat.reduceMul, Nat.reduceMod, Nat.reduceDiv, Nat.reducePow, UInt8.reduceToNat, Int.reduceEq, Int.reduceLT, Int.reduceLE, ↓reduceIte, Nat.reduceAdd, Int.reduceToNat, reduceCtorEq, Nat.reduceLeDiff, ↓Ap]
   refine A3A.calls rfl fun r hr => ?_
   subst hr
   simp -dsimp (disch := first | assumption | omega | (simp only [Ae]; done) | (simp only [Ae]; omega)) only [↓Ag, Ad, Ai, Ah, eq_self, forall_const, Nat.reduceLT, Nat.reduceEqDiff, Nat.reduceSub, Nat.reduceMul, Nat.reduceMod, Nat.reduceDiv, Nat.reducePow, UInt8.reduceToNat, Int.reduceEq, Int.reduceLT, Int.reduceLE, ↓reduceIte, Nat.reduceAdd, Int.reduceToNat, reduceCtorEq, Nat.reduceLeDiff, ↓Ap]
end Go.Proofs.YtingoaihnlhiaaaDoor


namespace Go.Proofs.YtingoaihnlhiaaaDoor.graphOrders
open Go.ChangeShapes Go.WideShapes Go.ChangeAt Go.RowKit
set_option linter.unusedVariables false

theorem own : ownKnob Tryd.prog.godebug = none := by kernel_rfl
instance gi : A7 := ⟨[(0, Cj)], by kernel_rfl⟩
instance : Df := ⟨by kernel_rfl⟩
theorem et : Tryd.prog.globalNamed "errors.errorType" = some 0 := by kernel_rfl
theorem rt : (Tryd.prog.cutTypes.find? (·.1 == "internal/reflectlite.rtype")).map (·.2) = some 118 := by kernel_rfl
theorem Ao3 : ((List.range Tryd.prog.types.size).filter fun t => Tryd.prog.rowNamed t [101, 114, 114, 111, 114]) = [26] := by kernel_rfl
theorem Aak {W : World} (h : handlesMet Tryd.prog [("errors.errorType", Rows.laid_errors_errorType)] W) : ∃ t fr, W.heap[0]? = some (.cells Cj.cells.toArray t fr) := by
 obtain ⟨name, u, ty, e1, e2, e3, e4, e5⟩ := h _ (List.mem_singleton.2 rfl)
 have en : name = [101, 114, 114, 111, 114] := (Option.some.inj e1).symm
 subst en
 obtain rfl := Option.some.inj (rt.symm.trans e2)
 have hm : ty ∈ (List.range Tryd.prog.types.size).filter fun t => Tryd.prog.rowNamed t [101, 114, 114, 111, 114] := List.mem_filter.2 ⟨List.mem_range.2 e3, e4⟩
 rw [Ao3] at hm
 obtain rfl := List.mem_singleton.1 hm
 have hh : typeHandle Tryd.prog 26 = .pointer (some ⟨2, 26, none⟩) := by kernel_rfl
 rw [hh] at e5
 exact AnG et e5
theorem AcB {W : World} (h : laidMetH Tryd.prog Rows.graphOrdersRow.laid W) : Jz (fun b => b < W.heap.size) W := by
 intro g x hx
 have hm := Afd hx
 have h' : laidMet Tryd.prog [] W ∧ handlesMet Tryd.prog [("errors.errorType", Rows.laid_errors_errorType)] W := h
 have hm' : (g, x) ∈ ([(0, Cj)] : List (Nat × GV)) := hm
 simp only [List.mem_cons, List.mem_nil_iff, or_false, Prod.mk.injEq] at hm'
 have key : ∃ t fr, W.heap[g]? = some (.cells x.cells.toArray t fr) := by
  rcases hm' with ⟨rfl, rfl⟩
  ·exact Aak h'.2
 obtain ⟨t, fr, hk⟩ := key
 exact ⟨(Array.getElem?_eq_some_iff.1 hk).1, t, fr, hk⟩
noncomputable def AcY (os : Os) : World :=
 let w0 := World.holding Tryd.prog os ⟨#[], #[.slice none 0 0, .slice none 0 0, .slice none 0 0], []⟩
 let w1 := { w0 with heap := w0.heap.modify 0 fun
   | .cells _ t frozen => .cells Cj.cells.toArray t frozen
   | o => o }
 w1
theorem Abr (os : Os) (args : Array Value) : laidMetH Tryd.prog Rows.graphOrdersRow.laid ((AcY os).forCall (fun _ _ => 0) ⟨#[], args, []⟩).memory :=
 laidMetH_of_parts (laidMet_nil _ _) (by kernel_rfl)

theorem AmF : laidOutB Tryd.prog = true ∧ mapsRowed Tryd.prog = true :=
 have H := ClosedOfChecked.allSpec_of Tryd.checked.wellFormed (by kernel_rfl : Tryd.checked.prog.types = Tryd.checked.src.types)
 ⟨ClosedOfChecked.laidOutB_of H (by kernel_rfl), ClosedOfChecked.mapsRowed_of H⟩
theorem EI {a b : Bool} (h : a = true) (k : b = true) : (a && b) = true := by rw [h, k]; rfl
theorem ArS : (Rows.graphOrdersRow.wf (OpenSpec.ofChange Rows.graphOrdersSpec)) = true := by kernel_rfl
theorem A1U : (laidOutB Tryd.prog) = true := AmF.1
theorem Arp : (mapsRowed Tryd.prog) = true := AmF.2
theorem Ar1 : (Tryd.f3.params.all (Tryd.prog.readableRec ·)) = true := by kernel_rfl
theorem A2o : (namedTie Tryd.prog Rows.graphOrdersRow.named Rows.graphOrdersSpec.vars) = true := by kernel_rfl
theorem Asf : ((Rows.graphOrdersRow.stops == [])) = true := by kernel_rfl
theorem Ar5 : ((Tryd.prog.stops == [])) = true := by kernel_rfl
theorem Art : ((Rows.graphOrdersRow.knobs == [])) = true := by kernel_rfl
theorem Asx : ((Tryd.prog.stopKnobs == [])) = true := by kernel_rfl
theorem A2k : ((Rows.graphOrdersRow.inPlace == Tryd.prog.inPlace 3)) = true := by kernel_rfl
theorem ApQ : ((Rows.graphOrdersRow.unfollowed == Tryd.prog.unfollowed 3)) = true := by kernel_rfl
theorem Ap7 : ((Rows.graphOrdersRow.recurses == Tryd.prog.recurses 3)) = true := by kernel_rfl
theorem AoI : ((Rows.graphOrdersRow.named == Tryd.prog.varsNamed 3)) = true := by kernel_rfl
theorem AoB : ((Rows.graphOrdersRow.maps == (Tryd.f3.params.toList ++ Rows.graphOrdersSpec.plain.varTypes Tryd.prog).any (Tryd.prog.mapsRec ·))) = true := by kernel_rfl
theorem Aqd : ((Rows.graphOrdersRow.ifaces == (Tryd.f3.params.toList ++ Rows.graphOrdersSpec.plain.varTypes Tryd.prog).any (Tryd.prog.ifacesRec ·))) = true := by kernel_rfl
theorem ApL : ((Rows.graphOrdersRow.mapsOut == Tryd.prog.mapsAmong Tryd.f3.resultTypes.toList)) = true := by kernel_rfl
theorem Apk : ((Rows.graphOrdersRow.loops == (Tryd.f3.params.toList ++ Rows.graphOrdersSpec.plain.varTypes Tryd.prog).any (Tryd.prog.loopsFrom ·))) = true := by kernel_rfl
theorem AqA : ((Rows.graphOrdersRow.wideKeys == (Tryd.f3.params.toList ++ Rows.graphOrdersSpec.plain.varTypes Tryd.prog ++ Tryd.f3.resultTypes.toList).any (Tryd.prog.wideKeysFrom ·))) = true := by kernel_rfl
theorem Aoo : (Rows.graphOrdersSpec.vars.all (Tryd.prog.varReadable ·)) = true := by kernel_rfl
theorem Aqw : (Tryd.f3.resultTypes.all (fun t => Tryd.prog.readableRec t && decide (t < Tryd.prog.types.size))) = true := by kernel_rfl
theorem AqO : ((Rows.graphOrdersRow.ifacesOut == Tryd.f3.resultTypes.toList.any (Tryd.prog.ifacesRec ·))) = true := by kernel_rfl
theorem Ap1 : ((Rows.graphOrdersRow.loopsOut == Tryd.f3.resultTypes.toList.any (Tryd.prog.loopsFrom ·))) = true := by kernel_rfl
theorem ApJ : ((Rows.graphOrdersRow.plainKeys == Tryd.prog.plainKeys)) = true := by kernel_rfl
theorem Aqm : (Rows.graphOrdersRow.shortTexts.isNone) = true := by kernel_rfl
theorem Aqs : (Tryd.prog.stopsHeard) = true := by kernel_rfl
theorem Ao4 : (Tryd.prog.mayEnter) = true := by kernel_rfl
theorem Ap3 : ((Rows.graphOrdersRow.lifted == Tryd.prog.liftsFinal)) = true := by kernel_rfl
theorem AoW : ((Tryd.prog.make == some Rows.graphOrdersRow.make)) = true := by kernel_rfl
theorem AoV : ((Rows.graphOrdersRow.kinds == (if Rows.graphOrdersRow.domain.isEmpty then [] else Tryd.f3.params.toList.map fun t => match Tryd.prog.underlying t with | some (.int k) => some k | _ => none))) = true := by kernel_rfl
theorem AqH : ((Rows.graphOrdersRow.pinned == Rows.graphOrdersRow.pinnedBy)) = true := by kernel_rfl
theorem Aou : ((Rows.graphOrdersRow.veiled == (Tryd.f3.params.toList ++ Rows.graphOrdersSpec.plain.varTypes Tryd.prog ++ Tryd.f3.resultTypes.toList).any (Tryd.prog.veiledRec ·))) = true := by kernel_rfl
theorem ApC : (Rows.graphOrdersRow.veiledFits Tryd.prog Tryd.f3.params.toList (Tryd.f3.params.toList ++ Rows.graphOrdersSpec.plain.varTypes Tryd.prog ++ Tryd.f3.resultTypes.toList)) = true := by kernel_rfl
set_option maxRecDepth 100000 in
theorem AkG : ((Rows.graphOrdersRow.wf (OpenSpec.ofChange Rows.graphOrdersSpec)) && (laidOutB Tryd.prog) && (mapsRowed Tryd.prog) && (Tryd.f3.params.all (Tryd.prog.readableRec ·)) && (namedTie Tryd.prog Rows.graphOrdersRow.named Rows.graphOrdersSpec.vars) && ((Rows.graphOrdersRow.stops == [])) && ((Tryd.prog.stops == [])) && ((Rows.graphOrdersRow.knobs == [])) && ((Tryd.prog.stopKnobs == [])) && ((Rows.graphOrdersRow.inPlace == Tryd.prog.inPlace 3)) && ((Rows.graphOrdersRow.unfollowed == Tryd.prog.unfollowed 3)) && ((Rows.graphOrdersRow.recurses == Tryd.prog.recurses 3)) && ((Rows.graphOrdersRow.named == Tryd.prog.varsNamed 3)) && ((Rows.graphOrdersRow.maps == (Tryd.f3.params.toList ++ Rows.graphOrdersSpec.plain.varTypes Tryd.prog).any (Tryd.prog.mapsRec ·))) && ((Rows.graphOrdersRow.ifaces == (Tryd.f3.params.toList ++ Rows.graphOrdersSpec.plain.varTypes Tryd.prog).any (Tryd.prog.ifacesRec ·))) && ((Rows.graphOrdersRow.mapsOut == Tryd.prog.mapsAmong Tryd.f3.resultTypes.toList)) && ((Rows.graphOrdersRow.loops == (Tryd.f3.params.toList ++ Rows.graphOrdersSpec.plain.varTypes Tryd.prog).any (Tryd.prog.loopsFrom ·))) && ((Rows.graphOrdersRow.wideKeys == (Tryd.f3.params.toList ++ Rows.graphOrdersSpec.plain.varTypes Tryd.prog ++ Tryd.f3.resultTypes.toList).any (Tryd.prog.wideKeysFrom ·))) && (Rows.graphOrdersSpec.vars.all (Tryd.prog.varReadable ·)) && (Tryd.f3.resultTypes.all (fun t => Tryd.prog.readableRec t && decide (t < Tryd.prog.types.size))) && ((Rows.graphOrdersRow.ifacesOut == Tryd.f3.resultTypes.toList.any (Tryd.prog.ifacesRec ·))) && ((Rows.graphOrdersRow.loopsOut == Tryd.f3.resultTypes.toList.any (Tryd.prog.loopsFrom ·))) && ((Rows.graphOrdersRow.plainKeys == Tryd.prog.plainKeys)) && (Rows.graphOrdersRow.shortTexts.isNone) && (Tryd.prog.stopsHeard) && (Tryd.prog.mayEnter) && ((Rows.graphOrdersRow.lifted == Tryd.prog.liftsFinal)) && ((Tryd.prog.make == some Rows.graphOrdersRow.make)) && ((Rows.graphOrdersRow.kinds == (if Rows.graphOrdersRow.domain.isEmpty then [] else Tryd.f3.params.toList.map fun t => match Tryd.prog.underlying t with | some (.int k) => some k | _ => none))) && ((Rows.graphOrdersRow.pinned == Rows.graphOrdersRow.pinnedBy)) && ((Rows.graphOrdersRow.veiled == (Tryd.f3.params.toList ++ Rows.graphOrdersSpec.plain.varTypes Tryd.prog ++ Tryd.f3.resultTypes.toList).any (Tryd.prog.veiledRec ·))) && (Rows.graphOrdersRow.veiledFits Tryd.prog Tryd.f3.params.toList (Tryd.f3.params.toList ++ Rows.graphOrdersSpec.plain.varTypes Tryd.prog ++ Tryd.f3.resultTypes.toList))) = true := (EI (EI (EI (EI (EI (EI (EI (EI (EI (EI (EI (EI (EI (EI (EI (EI (EI (EI (EI (EI (EI (EI (EI (EI (EI (EI (EI (EI (EI (EI (EI ArS A1U) Arp) Ar1) A2o) Asf) Ar5) Art) Asx) A2k) ApQ) Ap7) AoI) AoB) Aqd) ApL) Apk) AqA) Aoo) Aqw) AqO) Ap1) ApJ) Aqm) Aqs) Ao4) Ap3) AoW) AoV) AqH) Aou) ApC)
set_option maxRecDepth 100000 in
theorem Adj : joinedFacts Tryd.prog 3 Tryd.f3 Rows.graphOrdersSpec Rows.graphOrdersRow = true := AkG
set_option maxRecDepth 100000 in
theorem lifted (os : Os) (started : os.Started) (H : Type) (enc : TypeId × Value → H) :
  ReturnsInHanded {} Tryd.checked os 3 .any (fun w args => (Rows.graphOrdersSpec.pre enc Tryd.prog Tryd.f3 [] false w args ∧ laidMetH Tryd.prog Rows.graphOrdersRow.laid w) ∧ sizedMet enc Tryd.prog Tryd.f3 (OpenSpec.ofChange Rows.graphOrdersSpec) false w args) (Rows.graphOrdersSpec.post enc Tryd.prog Tryd.f3 false true false false) := by
 refine returnsInHanded_of_change_and (C := Tryd.checked) (X := fun w _ => laidMetH Tryd.prog Rows.graphOrdersRow.laid w) (fun _ _ _ hh h => h.of_heap hh) own started (by kernel_rfl) Tryd.func3
  (ChangeSpec.witness_at (enc := enc) (C := Tryd.checked) (os := os) (X := fun w _ => laidMetH Tryd.prog Rows.graphOrdersRow.laid w) false (AcY os) #[.slice none 0 0, .slice none 0 0, .slice none 0 0] 8 rfl (by kernel_rfl) (by kernel_rfl) (by kernel_rfl) (by kernel_rfl) (by kernel_rfl) (Abr os _)) ?_
 intro W base args ds gs before hval0 hW hcnd hsz0 hL _
 have hsz : (DataW.weightsEach Tryd.prog (Tryd.f3.params.toList ++ Rows.graphOrdersSpec.plain.varTypes Tryd.prog) (ds ++ gs)).all (· ≤ reachBytes) = true := hsz0
 have hval : ∀ (j : Nat) t v, Tryd.f3.params[j]? = some t → args[j]? = some v → Value.okWide Tryd.prog W .any base t v := hval0
 have hW' := hW
 obtain ⟨p, q, hA0, hV, rfl, hfz, hnd⟩ := hW
 have hA : DataW.TrodAll enc Tryd.prog W 0 (fun _ => true) true Tryd.f3.params.toList args.toList ds p := hA0
 obtain ⟨rfl, rfl⟩ := trodVars_none hV
 have hsz2 : (DataW.weightsEach Tryd.prog Tryd.f3.params.toList ds).all (· ≤ reachBytes) = true := by
  have e : Tryd.f3.params.toList ++ Rows.graphOrdersSpec.plain.varTypes Tryd.prog = Tryd.f3.params.toList := by simp [ChangeSpec.plain, Rows.graphOrdersSpec]; rfl
  rw [e, List.append_nil] at hsz; exact hsz
 have hA' := hA
 have hps : (Tryd.f3.params.toList.all fun t => Tryd.prog.readableRec t && decide (t < Tryd.prog.types.size)) = true := by kernel_rfl
 have hv2 : ∀ (j : Nat) t v, Tryd.f3.params.toList[j]? = some t → args.toList[j]? = some v → ∃ base, Value.okWide Tryd.prog W .any base t v := fun j t v h1 h2 => ⟨base, hval j t v (by rw [← Array.getElem?_toList]; exact h1) (by rw [← Array.getElem?_toList]; exact h2)⟩
 rw [Tryd.params3] at hA hsz2 hv2
 obtain ⟨dsE, hdsE⟩ : ∃ x, x = ds := ⟨_, rfl⟩
 refine (Aqi (f := 3) (JM AcG (PY Tryd.underlying22) (fun _ => rfl) (JM ZN (PY Tryd.underlying23) (fun _ => rfl) (JM ZN (PY Tryd.underlying23) (fun _ => rfl) Aby))) (fun a h => Af8 a.1 a.2.1 a.2.2.1 h.1 h.2.1.2 h.2.2.1.2) hA hv2 hsz2 (AcB hL)).mono fun e W' ⟨he, bel⟩ => ?_
 subst he
 have hB := Vl AmF.1 bel hps hA'
 have hAo := hA
 obtain ⟨v0, vs0, d0, ds0, p0, q0, ha0, hd0, hp0, h0, r0⟩ := trodAll_cons hAo
 obtain ⟨v1, vs1, d1, ds1, p1, q1, ha1, hd1, hp1, h1, r1⟩ := trodAll_cons r0
 obtain ⟨v2, vs2, d2, ds2, p2, q2, ha2, hd2, hp2, h2, r2⟩ := trodAll_cons r1
 obtain ⟨hz1, hz2, hz3⟩ := trodAll_nil r2
 have hd : ds = [d0, d1, d2] := by rw [hd0, hd1, hd2, hz2]
 subst hd
 exact ⟨_, rfl, _, _, _, [], _, [], hW', trodAll_mk1 (shut_bool Tryd.underlying4 _), hB, rfl, bel.frame _, fun h => by cases h⟩

theorem over : Rows.graphOrdersRow.holds Tryd.pinned (OpenSpec.ofChange Rows.graphOrdersSpec) :=
 OpenClaim.holds_of_wide 3 Tryd.f3 rfl rfl rfl rfl rfl rfl rfl ⟨rfl, rfl, rfl, rfl, rfl⟩ rfl rfl rfl rfl rfl (by kernel_rfl) Tryd.func3 Adj
  (of_decide_eq_true (by kernel_rfl)) (by unfold Func.isWrapper; first | (rw [if_pos (by decide +kernel)]; kernel_rfl) | (rw [if_neg (by decide +kernel)]; exact ⟨rfl, rfl⟩))
  (fun os started H enc _ => lifted os started H enc)
theorem stands : (Tryd.f3.params.toList.all fun t => !Tryd.prog.wantsStandIn t) = true := by kernel_rfl
theorem proved : Rows.GraphOrdersCardSaid :=
 Claim7.holds_tied_plain_at .later [] [.handle] true (true, "39e33661b3df449857456570c2a248c47def025802fa2ecef979a36e033f17ae") true
  over (fun _ h => by cases h) (by kernel_rfl) (fun _ h => by cases h) graphOrders_row_tie rfl ⟨rfl, rfl⟩ (by kernel_rfl) rfl
  (fun f fn hf hfn => by
   obtain rfl : f = 3 := (Option.some.inj ((show Tryd.prog.funcNamed "gitlike/gitlikelaw9.GraphOrders" = some 3 by kernel_rfl).symm.trans hf)).symm
   obtain rfl : fn = Tryd.f3 := (Option.some.inj (Tryd.func3.symm.trans hfn)).symm
   exact ⟨by kernel_rfl, fun j t ht => by
    rw [← Array.getElem?_toList] at ht
    have := List.all_eq_true.1 stands t (List.mem_of_getElem? ht)
    exact (show Tryd.prog.wantsStandIn t = false by simpa using this)⟩)
  (by kernel_rfl)
#print axioms proved
end Go.Proofs.YtingoaihnlhiaaaDoor.graphOrders

