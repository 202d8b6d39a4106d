/- PackIndexesCard: the law, proved out of contracts of the functions that it reaches (texts merged; names shortened by a program). No condition is laid on it. -/
import Derived.Test.YtmlompedpahkjaaDoorQF
import Derived.Test.YtmlompedpahkjaaDoorQE
import Derived.Test.YtmlompedpahkjaaDoorProg
import Derived.Test.YtmlompedpahkjaaDoorQD
import Derived.WalkKit
import Derived.LaidEql
import Derived.Stop.Asserts
import Derived.RowKitTokens
import Derived.SevenTiedAt
import Derived.Test.YtmlompedpahkjaaDoorCards
import Derived.Test.YtmlompedpahkjaaDoorTie
import Derived.Test.YtmlompedpahkjaaDoorRows
import Derived.ProofKit
import Derived.OpenShut
import Derived.ShutString
import Derived.ChangeOld
import Derived.Below
import Derived.SizedLaws
import Derived.ChangeVars
import Derived.LaidLaws
import Derived.LaidHandle
import Derived.Stop.Joined
import Derived.ClosedOfChecked
namespace Go.Proofs.YtmlompedpahkjaaDoor
open Go.RowKit Go.Sort Go.Shelf Kit
variable [BA]
set_option linter.unusedSectionVars false
set_option linter.unusedVariables false
set_option linter.unusedSimpArgs false

theorem AlB {H : List Ob} {K : TV → List Ob → Prop} (hK : K (.tup []) H) : Ap Tryd.prog 72 [.val (.slice none 0 0), .val (.func (.func 73) #[] #[])] H K := by
 intro β F w vs hs hv
 obtain ⟨u, us, rfl, h2, h3⟩ := Bg.cons.1 hv
 obtain ⟨u2, us2, rfl, h4, h5⟩ := Bg.cons.1 h3
 rw [Bg.nil] at h5; subst h5
 obtain rfl : u = .slice none 0 0 := Rep.val.1 (Or.inl h2)
 refine (AnyF.slices_SortFunc_none Tryd.sortL none 0 u2 w).mono ?_
 rintro _ _ ⟨rfl, rfl⟩
 exact ⟨_, _, β, _, F, rfl, hK, hs, AA.refl _ _, .inr ⟨[], [], rfl, rfl, Bg.nil.2 rfl⟩⟩
theorem Aqh {H : List Ob} {K : TV → List Ob → Prop} (hK : K (.tup []) H) : Ap Tryd.prog 34 [.val (.slice none 0 0)] H K := by
 refine UC (by simp) ?_
 simp -dsimp (disch := first | assumption | omega | (simp only [Ac]; done) | (simp only [Ac]; omega)) only [↓Ah, Ae, Ai, Ag, eq_self, forall_const, Nat.reduceLT, Nat.reduceEqDiff, Nat.reduceSub, Nat.reduceMul, Nat.reduceMod, Nat.reduceDiv, Nat.reducePow, UInt8.reduceToNat, Int.reduceEq, Int.reduceLT, Int.reduceLE, ↓reduceIte, Nat.reduceAdd, Int.reduceToNat, reduceCtorEq, Nat.reduceLeDiff, ↓MI]
 refine OY (AlB ?_)
 simp -dsimp (disch := first | assumption | omega | (simp only [Ac]; done) | (simp only [Ac]; omega)) only [↓Ah, Ae, Ai, Ag, eq_self, forall_const, Nat.reduceLT, Nat.reduceEqDiff, Nat.reduceSub, Nat.reduceMul, Nat.reduceMod, Nat.reduceDiv, Nat.reducePow, UInt8.reduceToNat, Int.reduceEq, Int.reduceLT, Int.reduceLE, ↓reduceIte, Nat.reduceAdd, Int.reduceToNat, reduceCtorEq, Nat.reduceLeDiff, ↓MI]
 exact hK
theorem Ai9 (l : List Pl) (hl : l.length ≤ 5000) (h20 : ∀ p ∈ l, p.id.length = 20) (hc : ∀ p ∈ l, p.crc < 4294967296) (sum : List UInt8) (hs : sum.length = 20) : J4 Tryd.prog 15 [.sl 22 (l.map plT), .arr 20 1 (sum.map by8)] (Aai (fun b => .tup [slB b, .val .nilIface]) (.tup [.val (.slice none 0 0), .ifc 32 (i64 ((42 : Nat) : Int))]) l sum) := by
 have htk : ∀ X : List UInt8, (X.map by8).take X.length = X.map by8 := fun X => by rw [List.take_of_length_le]; simp
 have fin : ∀ s : List Pl, s.Perm l → s.Pairwise (fun x y => ¬ ltB y.id x.id) → ∀ (lv n0 : Nat) (er : Env) (H : List Ob), H[0]? = some (.obj 0 (.arr 20 1 (sum.map by8))) → H[1]? = some (.obj lv (.arr s.length 22 (s.map plT))) →
   vwp Tryd.prog Dv (NU Bz fun x H' => Bj (frs H' x) (Aai (fun b => .tup [slB b, .val .nilIface]) (.tup [.val (.slice none 0 0), .ifc 32 (i64 ((42 : Nat) : Int))]) l sum)) ((0, .os 22 1 lv [] 0 s.length n0) :: (3, .op 0 0 []) :: er) H := by
  intro s hp hso lv n0 er H h1 h2
  have hm : ∀ p, p ∈ s → p ∈ l := fun p hq => hp.mem_iff.1 hq
  have hfit : Fit s ↔ Fit l := ⟨fun h => h.perm hp, fun h => h.perm hp.symm⟩
  refine Afg (s := s) (by rw [hp.length_eq]; exact hl) (fun p q => hc p (hm p q)) (fun p q => h20 p (hm p q)) hso hs h1 h2 (fun hf H' => ?_) (fun hf H' id v' cp' h => ?_)
  ·have := Aai.no (f := fun b => .tup [slB b, .val .nilIface]) (n := .tup [.val (.slice none 0 0), .ifc 32 (i64 ((42 : Nat) : Int))]) (sum := sum) fun k => hf (hfit.2 k)
   simp -dsimp (disch := first | assumption | omega | (simp only [Ac]; done) | (simp only [Ac]; omega)) only [↓Ah, Ae, Ai, Ag, eq_self, forall_const, Nat.reduceLT, Nat.reduceEqDiff, Nat.reduceSub, Nat.reduceMul, Nat.reduceMod, Nat.reduceDiv, Nat.reducePow, UInt8.reduceToNat, Int.reduceEq, Int.reduceLT, Int.reduceLE, ↓reduceIte, Nat.reduceAdd, Int.reduceToNat, reduceCtorEq, Nat.reduceLeDiff]
   exact this
  ·have := Aai.yes (f := fun b => .tup [slB b, .val .nilIface]) (n := .tup [.val (.slice none 0 0), .ifc 32 (i64 ((42 : Nat) : Int))]) (sum := sum) (hfit.1 hf) (SP.of hso hf.ids) hp
   generalize FT s sum ++ sha (FT s sum) = X at *
   simp -dsimp (disch := first | assumption | omega | (simp only [Ac]; done) | (simp only [Ac]; omega)) only [↓Ah, Ae, Ai, Ag, eq_self, forall_const, Nat.reduceLT, Nat.reduceEqDiff, Nat.reduceSub, Nat.reduceMul, Nat.reduceMod, Nat.reduceDiv, Nat.reducePow, UInt8.reduceToNat, Int.reduceEq, Int.reduceLT, Int.reduceLE, ↓reduceIte, Nat.reduceAdd, Int.reduceToNat, reduceCtorEq, Nat.reduceLeDiff, h, htk]
   exact this
 refine Ap.toFreshV (UJ (by simp) ?_)
 simp -dsimp (disch := first | assumption | omega | (simp only [Ac]; done) | (simp only [Ac]; omega)) only [↓Ah, Ae, Ai, Ag, eq_self, forall_const, Nat.reduceLT, Nat.reduceEqDiff, Nat.reduceSub, Nat.reduceMul, Nat.reduceMod, Nat.reduceDiv, Nat.reducePow, UInt8.reduceToNat, Int.reduceEq, Int.reduceLT, Int.reduceLE, ↓reduceIte, Nat.reduceAdd, Int.reduceToNat, reduceCtorEq, Nat.reduceLeDiff, ↓TD, ↓OL]
 refine OY (AjM (by omega) (fun h0 => ?_) ?_)
 ·subst h0
  simp -dsimp (disch := first | assumption | omega | (simp only [Ac]; done) | (simp only [Ac]; omega)) only [↓Ah, Ae, Ai, Ag, eq_self, forall_const, Nat.reduceLT, Nat.reduceEqDiff, Nat.reduceSub, Nat.reduceMul, Nat.reduceMod, Nat.reduceDiv, Nat.reducePow, UInt8.reduceToNat, Int.reduceEq, Int.reduceLT, Int.reduceLE, ↓reduceIte, Nat.reduceAdd, Int.reduceToNat, reduceCtorEq, Nat.reduceLeDiff, ↓Gn]
  refine OY (Aqh ?_)
  simp -dsimp (disch := first | assumption | omega | (simp only [Ac]; done) | (simp only [Ac]; omega)) only [↓Ah, Ae, Ai, Ag, eq_self, forall_const, Nat.reduceLT, Nat.reduceEqDiff, Nat.reduceSub, Nat.reduceMul, Nat.reduceMod, Nat.reduceDiv, Nat.reducePow, UInt8.reduceToNat, Int.reduceEq, Int.reduceLT, Int.reduceLE, ↓reduceIte, Nat.reduceAdd, Int.reduceToNat, reduceCtorEq, Nat.reduceLeDiff, ↓Gp]
  exact fin [] (List.Perm.refl _) List.Pairwise.nil 0 0 _ _ rfl rfl
 ·simp -dsimp (disch := first | assumption | omega | (simp only [Ac]; done) | (simp only [Ac]; omega)) only [↓Ah, Ae, Ai, Ag, eq_self, forall_const, Nat.reduceLT, Nat.reduceEqDiff, Nat.reduceSub, Nat.reduceMul, Nat.reduceMod, Nat.reduceDiv, Nat.reducePow, UInt8.reduceToNat, Int.reduceEq, Int.reduceLT, Int.reduceLE, ↓reduceIte, Nat.reduceAdd, Int.reduceToNat, reduceCtorEq, Nat.reduceLeDiff, ↓Gn]
  refine OY (Aqz (d := l) (N := l.length) h20 rfl (by omega) fun s hp hso => ?_)
  simp -dsimp (disch := first | assumption | omega | (simp only [Ac]; done) | (simp only [Ac]; omega)) only [↓Ah, Ae, Ai, Ag, eq_self, forall_const, Nat.reduceLT, Nat.reduceEqDiff, Nat.reduceSub, Nat.reduceMul, Nat.reduceMod, Nat.reduceDiv, Nat.reducePow, UInt8.reduceToNat, Int.reduceEq, Int.reduceLT, Int.reduceLE, ↓reduceIte, Nat.reduceAdd, Int.reduceToNat, reduceCtorEq, Nat.reduceLeDiff, ↓Gp]
  rw [← hp.length_eq]
  exact fin s hp hso 1 _ _ _ rfl rfl
end Go.Proofs.YtmlompedpahkjaaDoor


namespace Go.Proofs.YtmlompedpahkjaaDoor
open Go.RowKit Kit
variable [BA]
set_option linter.unusedSectionVars false
set_option linter.unusedVariables false
set_option linter.unusedSimpArgs false

theorem AjU {t : TypeId} {a b : Int} (h : b ≠ 0) : ∃ z, EF t .quo (.int .i64 a) (.int .i64 b) = some (.int .i64 z) := by
 have e : binOp .quo t (.int .i64 a) (.int .i64 b) = pure (.int .i64 (IntKind.i64.wrap (a.tdiv b))) := by
  unfold binOp
  simp only [ne_eq, not_true_eq_false, if_false, Op.intDiv, h]
 exact ⟨IntKind.i64.wrap (a.tdiv b), by unfold EF; rw [e]; rfl⟩
abbrev z20 : List UInt8 := List.replicate 20 0
theorem Adi : (z20.map by8) = List.replicate 20 (.val (.int .u8 ((0 : Nat) : Int))) := by simp [by8]
theorem Ajv (p : Pl) : W9 (plT p) = true := by
 unfold plT
 simp only [W9, Jq, SK, Bool.and_self]
theorem XK : ∀ l : List Pl, Jq (l.map plT) = true
 | [] => by rw [List.map_nil, Jq]
 | p :: l => by rw [List.map_cons, Jq, Ajv, XK l]; rfl
/-- What is answered. -/
def Arm (f : TV) (n : TV) (b : List UInt8) (r : TV) : Prop := (Nc sha b → r = f) ∧ (¬ Nc sha b → r = n)
theorem YR {b : List UInt8} {i : Nat} (h : i < (b.length - 1072) / 28) : (Ha b).take (i + 1) = (Ha b).take i ++ [Yb b ((b.length - 1072) / 28) i] := by
 have hl : i < (Ha b).length := by rw [PN]; exact h
 rw [List.take_succ_eq_append_getElem hl]
 have := AjN h
 rw [List.getElem?_eq_getElem hl] at this
 rw [Option.some.inj this]
set_option maxRecDepth 100000 in
theorem Aox (b : List UInt8) (hb : b.length ≤ 100000) : J4 Tryd.prog 40 [slB b] (Arm (.tup [.sl 22 ((Ha b).map plT), .arr 20 1 ((Ic b).map by8), .val .nilIface]) (.tup [.val (.slice none 0 0), .arr 20 1 (z20.map by8), .ifc 32 (i64 ((42 : Nat) : Int))]) b) := by
 refine Ap.toFreshV (VB (by simp) ?_)
 have hz : z20.map by8 = List.replicate 20 (.val (.int .u8 ((0 : Nat) : Int))) := Adi
 simp only [List.replicate] at hz
 by_cases h1 : b.length < 1072
 ·obtain ⟨z, hq⟩ := AjU (t := 3) (a := (b.length : Int) - ((1072 : Nat) : Int)) (b := ((28 : Nat) : Int)) (by omega)
  simp -dsimp (disch := first | assumption | omega | (simp only [Ac]; done) | (simp only [Ac]; omega)) only [↓Ah, Ae, Ai, Ag, eq_self, forall_const, Nat.reduceLT, Nat.reduceEqDiff, Nat.reduceSub, Nat.reduceMul, Nat.reduceMod, Nat.reduceDiv, Nat.reducePow, UInt8.reduceToNat, Int.reduceEq, Int.reduceLT, Int.reduceLE, ↓reduceIte, Nat.reduceAdd, Int.reduceToNat, reduceCtorEq, Nat.reduceLeDiff, ↓G5, ↓DV, ↓D7, ↓BV, hq]
  rw [← hz]
  exact ⟨fun h => absurd h.len (by omega), fun _ => rfl⟩
 have hsub : ∀ t, EF t .sub (.int .i64 (b.length : Int)) (.int .i64 ((1072 : Nat) : Int)) = some (.int .i64 ((b.length - 1072 : Nat) : Int)) := fun t => by rw [Ad2 (by omega) (by omega)]; congr 2; omega
 by_cases h2 : (b.length - 1072) % 28 = 0
 case neg =>
  simp -dsimp (disch := first | assumption | omega | (simp only [Ac]; done) | (simp only [Ac]; omega)) only [↓Ah, Ae, Ai, Ag, eq_self, forall_const, Nat.reduceLT, Nat.reduceEqDiff, Nat.reduceSub, Nat.reduceMul, Nat.reduceMod, Nat.reduceDiv, Nat.reducePow, UInt8.reduceToNat, Int.reduceEq, Int.reduceLT, Int.reduceLE, ↓reduceIte, Nat.reduceAdd, Int.reduceToNat, reduceCtorEq, Nat.reduceLeDiff, ↓G5, ↓DV, ↓D7, ↓BV, hsub]
  rw [← hz]
  exact ⟨fun h => absurd h.mod h2, fun _ => rfl⟩
 have hn : b.length = 1072 + 28 * ((b.length - 1072) / 28) := by omega
 simp -dsimp (disch := first | assumption | omega | (simp only [Ac]; done) | (simp only [Ac]; omega)) only [↓Ah, Ae, Ai, Ag, eq_self, forall_const, Nat.reduceLT, Nat.reduceEqDiff, Nat.reduceSub, Nat.reduceMul, Nat.reduceMod, Nat.reduceDiv, Nat.reducePow, UInt8.reduceToNat, Int.reduceEq, Int.reduceLT, Int.reduceLE, ↓reduceIte, Nat.reduceAdd, Int.reduceToNat, reduceCtorEq, Nat.reduceLeDiff, ↓G5, ↓DV, ↓D7, ↓BV, hsub, h2]
 rw [← hz]
 obtain ⟨n, hnn⟩ : ∃ n, n = (b.length - 1072) / 28 := ⟨_, rfl⟩
 rw [← hnn] at hn ⊢
 simp -dsimp (disch := first | assumption | omega | (simp only [Ac]; done) | (simp only [Ac]; omega)) only [↓Ah, Ae, Ai, Ag, eq_self, forall_const, Nat.reduceLT, Nat.reduceEqDiff, Nat.reduceSub, Nat.reduceMul, Nat.reduceMod, Nat.reduceDiv, Nat.reducePow, UInt8.reduceToNat, Int.reduceEq, Int.reduceLT, Int.reduceLE, ↓reduceIte, Nat.reduceAdd, Int.reduceToNat, reduceCtorEq, Nat.reduceLeDiff, ↓P7, ↓Qp, ↓Qd, ↓Q5]
 have hl0 : (Ha b).length = n := by rw [PN, hnn]
 refine Dq (fun m e H => ∃ (i v cp : Nat), m = n - i ∧ i ≤ n ∧ H[0]? = some (.obj 0 (.arr 20 1 (z20.map by8))) ∧ H[1]? = some (.obj v (.arr i 22 (((Ha b).take i).map plT))) ∧
  e = [(0, slB b), (3, .op 0 0 []), (6, slB (b.drop 1032)), (7, slB (b.drop (1032 + 20 * n))), (8, slB (b.drop (1032 + 24 * n))), (9, .os 22 1 v [] 0 i cp), (44, i64 (n : Int)), (45, i64 (i : Int))]) n ?_ ?_
 ·exact ⟨0, 0, 0, by simp, by omega, rfl, by simp, by simp [forget, get]⟩
 ·rintro m e H ⟨i, v, cp, rfl, hi, hH0, hH1, rfl⟩
  have hHl : 1 < H.length := (List.getElem?_eq_some_iff.1 hH1).1
  by_cases c : i < n
  ·have hsucc := YR (b := b) (i := i) (by omega)
   rw [← hnn] at hsucc
   have e1 : (Yb b n i).id = (b.drop (1032 + 20 * i)).take 20 := rfl
   have e2 : (Yb b n i).crc = nm4 (b.drop (1032 + 20 * n + 4 * i)) := rfl
   have e3 : (Yb b n i).off = (nm4 (b.drop (1032 + 24 * n + 4 * i)) : Int) := rfl
   have hcut : List.take (b.length - 1032 - 20 * i) (List.drop (20 * i) (List.drop 1032 b)) = b.drop (1032 + 20 * i) := by rw [List.drop_drop, List.take_of_length_le (by simp; omega)]
   have hcl : 20 ≤ (b.drop (1032 + 20 * i)).length := by simp; omega
   simp -dsimp (disch := first | assumption | omega | (simp only [Ac]; done) | (simp only [Ac]; omega)) only [↓Ah, Ae, Ai, Ag, eq_self, forall_const, Nat.reduceLT, Nat.reduceEqDiff, Nat.reduceSub, Nat.reduceMul, Nat.reduceMod, Nat.reduceDiv, Nat.reducePow, UInt8.reduceToNat, Int.reduceEq, Int.reduceLT, Int.reduceLE, ↓reduceIte, Nat.reduceAdd, Int.reduceToNat, reduceCtorEq, Nat.reduceLeDiff, ↓Ip, ↓I8, ↓QJ, ↓QY, ↓QN, hcut, hcl]
   rw [List.append_assoc]
   have hX1 : ∀ x y : Ob, (H ++ ([x] ++ [y]))[H.length]? = some x := fun x y => by rw [List.getElem?_append_right (Nat.le_refl _), Nat.sub_self]; rfl
   have hX2 : ∀ x y : Ob, (H ++ ([x] ++ [y]))[H.length + 1]? = some y := fun x y => by rw [List.getElem?_append_right (by omega), show H.length + 1 - H.length = 1 by omega]; rfl
   have hs1 : ∀ x y z : Ob, (H ++ ([x] ++ [y])).set H.length z = H ++ ([z] ++ [y]) := fun x y z => by rw [List.set_append_right _ _ (Nat.le_refl _), Nat.sub_self]; rfl
   have hs2 : ∀ x y z : Ob, (H ++ ([x] ++ [y])).set (H.length + 1) z = H ++ ([x] ++ [z]) := fun x y z => by rw [List.set_append_right _ _ (by omega), show H.length + 1 - H.length = 1 by omega]; rfl
   refine Ap.callsP (Ac5 (l := b.drop (1032 + 20 * n)) (at' := 4 * i) (by simp; omega) (by simp; omega) (hX1 _ _) ?_)
   rw [hs1, List.drop_drop, ← e2]
   refine ⟨?_, ?_⟩
   case refine_2 => change Um [63] _ _ _; exact Ael (by simp [get]) Abj
   have hc4 : (Yb b n i).crc < 4294967296 := by rw [e2]; exact Zp _
   have hw : IntKind.u32.wrap ((Yb b n i).crc : Int) = ((Yb b n i).crc : Int) := Vz hc4
   simp -dsimp (disch := first | assumption | omega | (simp only [Ac]; done) | (simp only [Ac]; omega)) only [↓Ah, Ae, Ai, Ag, eq_self, forall_const, Nat.reduceLT, Nat.reduceEqDiff, Nat.reduceSub, Nat.reduceMul, Nat.reduceMod, Nat.reduceDiv, Nat.reducePow, UInt8.reduceToNat, Int.reduceEq, Int.reduceLT, Int.reduceLE, ↓reduceIte, Nat.reduceAdd, Int.reduceToNat, reduceCtorEq, Nat.reduceLeDiff, hw]
   refine Ap.callsP (Ac5 (l := b.drop (1032 + 24 * n)) (at' := 4 * i) (by simp; omega) (by simp; omega) (hX2 _ _) ?_)
   rw [hs2, List.drop_drop, ← e3]
   refine ⟨?_, ?_⟩
   case refine_2 => change Um [63] _ _ _; exact Ael (by simp [get]) Abj
   have hid20 : (((b.drop (1032 + 20 * i)).map by8).take 20) = (Yb b n i).id.map by8 := by rw [e1, List.map_take]
   rw [← e1]
   generalize Yb b n i = p at *
   have hti : (((Ha b).take i).map plT).take i = ((Ha b).take i).map plT := List.take_of_length_le (by simp; omega)
   have ht1 : ∀ y : TV, List.take 1 [y] = [y] := fun y => rfl
   have hY1 : ∀ T : List Ob, (H ++ T)[1]? = some (.obj v (.arr i 22 (((Ha b).take i).map plT))) := fun T => by rw [List.getElem?_append_left hHl]; exact hH1
   simp -dsimp (disch := first | assumption | omega | (simp only [Ac]; done) | (simp only [Ac]; omega)) only [↓Ah, Ae, Ai, Ag, eq_self, forall_const, Nat.reduceLT, Nat.reduceEqDiff, Nat.reduceSub, Nat.reduceMul, Nat.reduceMod, Nat.reduceDiv, Nat.reducePow, UInt8.reduceToNat, Int.reduceEq, Int.reduceLT, Int.reduceLE, ↓reduceIte, Nat.reduceAdd, Int.reduceToNat, reduceCtorEq, Nat.reduceLeDiff, hY1, U4, ht1, hti]
   rw [← BB, List.append_assoc]
   have hl2 : ∀ (T : List Ob) o, (H.set 1 o ++ T)[0]? = H[0]? := fun T o => by rw [List.getElem?_append_left (by simp; omega), List.getElem?_set_ne (by omega)]
   refine A8 (n - (i + 1)) (by omega) (by simp) ⟨i + 1, v + 1, i + 1, rfl, by omega, by rw [hl2]; exact hH0, ?_, by simp [forget, get]⟩
   rw [List.getElem?_append_left (by simp; omega), List.getElem?_set_self (by omega), hsucc]
   simp
  ·have hi2 : i = n := by omega
   subst hi2
   rw [List.take_of_length_le (by omega)] at hH1
   have hsub2 : ∀ t, EF t .sub (.int .i64 (b.length : Int)) (.int .i64 ((40 : Nat) : Int)) = some (.int .i64 ((b.length - 40 : Nat) : Int)) := fun t => by rw [Ad2 (by omega) (by omega)]; congr 2; omega
   have hid := X7 (b := b) (by omega)
   have hsl : (Ic b).length = 20 := V6 (by omega)
   have hse : List.take 20 (List.drop (b.length - 40) b) = Ic b := rfl
   have htk : ((Ha b).map plT).take i = (Ha b).map plT := List.take_of_length_le (by simp; omega)
   have hgx : Nc sha b ↔ wrF sha (Ha b) (Ic b) = some b := ⟨fun h => h.is, fun h => ⟨by omega, h2, h⟩⟩
   simp -dsimp (disch := first | assumption | omega | (simp only [Ac]; done) | (simp only [Ac]; omega)) only [↓Ah, Ae, Ai, Ag, eq_self, forall_const, Nat.reduceLT, Nat.reduceEqDiff, Nat.reduceSub, Nat.reduceMul, Nat.reduceMod, Nat.reduceDiv, Nat.reducePow, UInt8.reduceToNat, Int.reduceEq, Int.reduceLT, Int.reduceLE, ↓reduceIte, Nat.reduceAdd, Int.reduceToNat, reduceCtorEq, Nat.reduceLeDiff, ↓Ip, ↓I8, ↓Rh, ↓Rf, hsub2, hse]
   generalize Ic b = sm at *
   generalize Ha b = l at *
   refine (Ai9 l (by omega) (fun p hp => (hid p hp).1) (fun p hp => (hid p hp).2.1) sm hsl).lends (args' := [.sl 22 (l.map plT), .arr 20 1 (sm.map by8)]) (by simp -dsimp (disch := first | assumption | omega | (simp only [Ac]; done) | (simp only [Ac]; omega)) only [↓Ah, Ae, Ai, Ag, eq_self, forall_const, Nat.reduceLT, Nat.reduceEqDiff, Nat.reduceSub, Nat.reduceMul, Nat.reduceMod, Nat.reduceDiv, Nat.reducePow, UInt8.reduceToNat, Int.reduceEq, Int.reduceLT, Int.reduceLE, ↓reduceIte, Nat.reduceAdd, Int.reduceToNat, reduceCtorEq, Nat.reduceLeDiff, hH1, htk]) fun r hr => ?_
   cases hw : wrF sha l sm with
   | none =>
    rw [hr.2 hw]
    have hng : ¬ Nc sha b := fun h => by rw [hgx, hw] at h; cases h
    simp -dsimp (disch := first | assumption | omega | (simp only [Ac]; done) | (simp only [Ac]; omega)) only [↓Ah, Ae, Ai, Ag, eq_self, forall_const, Nat.reduceLT, Nat.reduceEqDiff, Nat.reduceSub, Nat.reduceMul, Nat.reduceMod, Nat.reduceDiv, Nat.reducePow, UInt8.reduceToNat, Int.reduceEq, Int.reduceLT, Int.reduceLE, ↓reduceIte, Nat.reduceAdd, Int.reduceToNat, reduceCtorEq, Nat.reduceLeDiff, ↓Il, ↓BV, hH0, hH1]
    rw [← hz]
    exact ⟨fun h => absurd h hng, fun _ => rfl⟩
   | some x =>
    rw [hr.1 x hw]
    simp -dsimp (disch := first | assumption | omega | (simp only [Ac]; done) | (simp only [Ac]; omega)) only [↓Ah, Ae, Ai, Ag, eq_self, forall_const, Nat.reduceLT, Nat.reduceEqDiff, Nat.reduceSub, Nat.reduceMul, Nat.reduceMod, Nat.reduceDiv, Nat.reducePow, UInt8.reduceToNat, Int.reduceEq, Int.reduceLT, Int.reduceLE, ↓reduceIte, Nat.reduceAdd, Int.reduceToNat, reduceCtorEq, Nat.reduceLeDiff, ↓Il, ↓BV, hH0, hH1]
    refine (Aax x b).calls rfl fun r hr => ?_
    subst hr
    by_cases hx : x = b
    ·have hg : Nc sha b := by rw [hgx, hw, hx]
     simp -dsimp (disch := first | assumption | omega | (simp only [Ac]; done) | (simp only [Ac]; omega)) only [↓Ah, Ae, Ai, Ag, eq_self, forall_const, Nat.reduceLT, Nat.reduceEqDiff, Nat.reduceSub, Nat.reduceMul, Nat.reduceMod, Nat.reduceDiv, Nat.reducePow, UInt8.reduceToNat, Int.reduceEq, Int.reduceLT, Int.reduceLE, ↓reduceIte, Nat.reduceAdd, Int.reduceToNat, reduceCtorEq, Nat.reduceLeDiff, ↓BV, hH0, hH1, hx, htk]
     rw [XK]
     exact ⟨fun _ => rfl, fun h => absurd hg h⟩
    ·have hng : ¬ Nc sha b := fun h => by rw [hgx, hw] at h; exact hx (Option.some.inj h)
     simp -dsimp (disch := first | assumption | omega | (simp only [Ac]; done) | (simp only [Ac]; omega)) only [↓Ah, Ae, Ai, Ag, eq_self, forall_const, Nat.reduceLT, Nat.reduceEqDiff, Nat.reduceSub, Nat.reduceMul, Nat.reduceMod, Nat.reduceDiv, Nat.reducePow, UInt8.reduceToNat, Int.reduceEq, Int.reduceLT, Int.reduceLE, ↓reduceIte, Nat.reduceAdd, Int.reduceToNat, reduceCtorEq, Nat.reduceLeDiff, ↓BV, hH0, hH1, hx]
     rw [← hz]
     exact ⟨fun h => absurd h hng, fun _ => rfl⟩
end Go.Proofs.YtmlompedpahkjaaDoor


namespace Go.Proofs.YtmlompedpahkjaaDoor
open Go.RowKit
variable [BA]
set_option linter.unusedSectionVars false
set_option linter.unusedVariables false
section
variable {t : TypeId} {a b : Nat} {k2 : IntKind}
theorem AjZ {n : Nat} (h : n < 18446744073709551616) : IntKind.u64.wrap (n : Int) = n := by rw [IntKind.wrap_u64]; omega
theorem AiI (h2 : b ≤ 64) : EF t .shr (.int .u64 (a : Int)) (.int k2 (b : Int)) = some (.int .u64 ((a / 2 ^ b : Nat) : Int)) := by
 have e : binOp .shr t (.int .u64 (a : Int)) (.int k2 (b : Int)) = pure (.int .u64 ((a / 2 ^ b : Nat) : Int)) := by
  show Op.shift .shr .u64 a k2 b = _
  unfold Op.shift
  rw [if_neg (by omega)]
  have hm : min ((b : Int)).toNat IntKind.u64.bits = b := by
   have : IntKind.u64.bits = 64 := rfl
   omega
  simp only [hm]
  rw [Int.fdiv_eq_ediv_of_nonneg _ (by exact Int.le_of_lt (Int.pow_pos (by omega)))]
  have e2 : (a : Int) / 2 ^ b = ((a / 2 ^ b : Nat) : Int) := by rw [Int.natCast_ediv, Int.natCast_pow]; rfl
  rw [e2]
 unfold EF; rw [e]; rfl
end
end Go.Proofs.YtmlompedpahkjaaDoor


namespace Go.Proofs.YtmlompedpahkjaaDoor
open Go.RowKit Kit
variable [BA]
set_option linter.unusedSectionVars false
set_option linter.unusedVariables false
set_option linter.unusedSimpArgs false

theorem Y2 : ∀ {a : List UInt8}, Lib.compareBytes a a = 0
 | [] => by simp [Lib.compareBytes]
 | x :: a => by rw [Lib.compareBytes]; simp [Y2 (a := a)]
theorem AdJ : ∀ {a b : List UInt8}, Lib.compareBytes a b = 0 → a = b
 | [], [], _ => rfl
 | [], _ :: _, h => by simp [Lib.compareBytes] at h
 | _ :: _, [], h => by simp [Lib.compareBytes] at h
 | x :: a, y :: b, h => by
  rw [Lib.compareBytes] at h
  split at h
  ·cases h
  ·split at h
   ·cases h
   ·rename_i h1 h2
    have e : x = y := UInt8.le_antisymm (UInt8.not_lt.1 h2) (UInt8.not_lt.1 h1)
    rw [e, AdJ h]
theorem Ai3 (p : Pl) (id : List UInt8) (hp : p.id.length = 20) (hi : id.length = 20) : D5 Tryd.prog 82 [plT p, .arr 20 1 (id.map by8)] (fun r => r = i64 (Lib.compareBytes p.id id)) := by
 refine Ap.toPureV (WU (by simp) ?_)
 have h2 : (id.map by8).take 20 = id.map by8 := by rw [List.take_of_length_le]; simp [hi]
 simp -dsimp (disch := first | assumption | omega | (simp only [Ac]; done) | (simp only [Ac]; omega)) only [↓Ah, Ae, Ai, Ag, eq_self, forall_const, Nat.reduceLT, Nat.reduceEqDiff, Nat.reduceSub, Nat.reduceMul, Nat.reduceMod, Nat.reduceDiv, Nat.reducePow, UInt8.reduceToNat, Int.reduceEq, Int.reduceLT, Int.reduceLE, ↓reduceIte, Nat.reduceAdd, Int.reduceToNat, reduceCtorEq, Nat.reduceLeDiff, ↓Sr, BB, hp, hi]
 refine (AhY p.id id).lends (args' := [slB p.id, slB id]) (by simp -dsimp (disch := first | assumption | omega | (simp only [Ac]; done) | (simp only [Ac]; omega)) only [↓Ah, Ae, Ai, Ag, eq_self, forall_const, Nat.reduceLT, Nat.reduceEqDiff, Nat.reduceSub, Nat.reduceMul, Nat.reduceMod, Nat.reduceDiv, Nat.reducePow, UInt8.reduceToNat, Int.reduceEq, Int.reduceLT, Int.reduceLE, ↓reduceIte, Nat.reduceAdd, Int.reduceToNat, reduceCtorEq, Nat.reduceLeDiff, Abf hp, h2]) fun r hr => ?_
 subst hr
 refine ⟨rfl, ?_⟩
 simp -dsimp (disch := first | assumption | omega | (simp only [Ac]; done) | (simp only [Ac]; omega)) only [↓Ah, Ae, Ai, Ag, eq_self, forall_const, Nat.reduceLT, Nat.reduceEqDiff, Nat.reduceSub, Nat.reduceMul, Nat.reduceMod, Nat.reduceDiv, Nat.reducePow, UInt8.reduceToNat, Int.reduceEq, Int.reduceLT, Int.reduceLE, ↓reduceIte, Nat.reduceAdd, Int.reduceToNat, reduceCtorEq, Nat.reduceLeDiff, ↓Sr]
theorem AhL (l : List Pl) (id : List UInt8) (hl : l.length ≤ 100000) (hs : SP l) (h20 : ∀ p ∈ l, p.id.length = 20) (hi : id.length = 20) : D5 Tryd.prog 81 [.sl 22 (l.map plT), .arr 20 1 (id.map by8), .val (.func (.func 82) #[] #[])] (fun r => ∃ i, i ≤ l.length ∧ (∀ (k : Nat) y, k < i → l[k]? = some y → ltB y.id id) ∧ (∀ (k : Nat) y, i ≤ k → l[k]? = some y → ¬ ltB y.id id) ∧ r = .tup [i64 (i : Int), .val (.bool (decide (∃ p, l[i]? = some p ∧ p.id = id)))]) := by
 refine Ap.toPureV (Cc (by simp) ?_)
 simp -dsimp (disch := first | assumption | omega | (simp only [Ac]; done) | (simp only [Ac]; omega)) only [↓Ah, Ae, Ai, Ag, eq_self, forall_const, Nat.reduceLT, Nat.reduceEqDiff, Nat.reduceSub, Nat.reduceMul, Nat.reduceMod, Nat.reduceDiv, Nat.reducePow, UInt8.reduceToNat, Int.reduceEq, Int.reduceLT, Int.reduceLE, ↓reduceIte, Nat.reduceAdd, Int.reduceToNat, reduceCtorEq, Nat.reduceLeDiff, ↓BZ, ↓BM, ↓BR, ↓BQ]
 refine Dq (fun m e H => ∃ a c : Nat, m = c - a ∧ a ≤ c ∧ c ≤ l.length ∧ (∀ (k : Nat) y, k < a → l[k]? = some y → ltB y.id id) ∧ (∀ (k : Nat) y, c ≤ k → l[k]? = some y → ¬ ltB y.id id) ∧
  H = [.obj 0 (.arr 20 1 (id.map by8))] ∧ e = [(0, .sl 22 (l.map plT)), (2, .val (.func (.func 82) #[] #[])), (4, .op 0 0 []), (8, i64 (l.length : Int)), (9, i64 (a : Int)), (10, i64 (c : Int))]) l.length ?_ ?_
 ·refine ⟨0, l.length, by simp, by omega, by omega, fun k y h => by omega, fun k y h hy => ?_, rfl, by simp [forget, get]⟩
  have := (List.getElem?_eq_some_iff.1 hy).1; omega
 ·rintro m e H ⟨a, c, rfl, hac, hcl, hlo, hhi, rfl, rfl⟩
  by_cases h : a < c
  ·have hw := AjZ (n := a + c) (by omega)
   have hh : (a + c) / 2 ^ 1 < l.length := by omega
   have hg : l[(a + c) / 2 ^ 1]? = some l[(a + c) / 2 ^ 1] := List.getElem?_eq_getElem hh
   have hgo : TT Tryd.prog 82 = true := by kernel_rfl
   have hm1 : a ≤ (a + c) / 2 ^ 1 := by omega
   have hm2 : (a + c) / 2 ^ 1 < c := by omega
   simp -dsimp (disch := first | assumption | omega | (simp only [Ac]; done) | (simp only [Ac]; omega)) only [↓Ah, Ae, Ai, Ag, eq_self, forall_const, Nat.reduceLT, Nat.reduceEqDiff, Nat.reduceSub, Nat.reduceMul, Nat.reduceMod, Nat.reduceDiv, Nat.reducePow, UInt8.reduceToNat, Int.reduceEq, Int.reduceLT, Int.reduceLE, ↓reduceIte, Nat.reduceAdd, Int.reduceToNat, reduceCtorEq, Nat.reduceLeDiff, ↓Az, ↓BP, hw, AiI]
   generalize (a + c) / 2 ^ 1 = j at *
   have hp20 := h20 l[j] (List.getElem_mem hh)
   generalize l[j] = p at *
   simp -dsimp (disch := first | assumption | omega | (simp only [Ac]; done) | (simp only [Ac]; omega)) only [↓Ah, Ae, Ai, Ag, eq_self, forall_const, Nat.reduceLT, Nat.reduceEqDiff, Nat.reduceSub, Nat.reduceMul, Nat.reduceMod, Nat.reduceDiv, Nat.reducePow, UInt8.reduceToNat, Int.reduceEq, Int.reduceLT, Int.reduceLE, ↓reduceIte, Nat.reduceAdd, Int.reduceToNat, reduceCtorEq, Nat.reduceLeDiff, ↓BO, hg, hgo, BB]
   rw [← BB]
   refine (Ai3 p id hp20 hi).calls rfl fun r hr => ?_
   subst hr
   by_cases hlt : ltB p.id id
   ·have hc : Lib.compareBytes p.id id < ((0 : Nat) : Int) := by simpa using Yc.2 hlt
    simp -dsimp (disch := first | assumption | omega | (simp only [Ac]; done) | (simp only [Ac]; omega)) only [↓Ah, Ae, Ai, Ag, eq_self, forall_const, Nat.reduceLT, Nat.reduceEqDiff, Nat.reduceSub, Nat.reduceMul, Nat.reduceMod, Nat.reduceDiv, Nat.reducePow, UInt8.reduceToNat, Int.reduceEq, Int.reduceLT, Int.reduceLE, ↓reduceIte, Nat.reduceAdd, Int.reduceToNat, reduceCtorEq, Nat.reduceLeDiff]
    refine A8 (c - (j + 1)) (by omega) (by simp) ⟨j + 1, c, rfl, by omega, hcl, fun k y hk hy => ?_, hhi, rfl, by simp [forget, get]⟩
    by_cases hkj : k = j
    ·subst hkj; rw [hg] at hy; cases hy; exact hlt
    ·exact Fa (List.pairwise_iff_getElem.1 hs k j (List.getElem?_eq_some_iff.1 hy).1 hh (by omega) |> fun h => by rw [(List.getElem?_eq_some_iff.1 hy).2, (List.getElem?_eq_some_iff.1 hg).2] at h; exact h) hlt
   ·have hc : ¬ Lib.compareBytes p.id id < ((0 : Nat) : Int) := fun h => hlt (Yc.1 (by simpa using h))
    simp -dsimp (disch := first | assumption | omega | (simp only [Ac]; done) | (simp only [Ac]; omega)) only [↓Ah, Ae, Ai, Ag, eq_self, forall_const, Nat.reduceLT, Nat.reduceEqDiff, Nat.reduceSub, Nat.reduceMul, Nat.reduceMod, Nat.reduceDiv, Nat.reducePow, UInt8.reduceToNat, Int.reduceEq, Int.reduceLT, Int.reduceLE, ↓reduceIte, Nat.reduceAdd, Int.reduceToNat, reduceCtorEq, Nat.reduceLeDiff]
    refine A8 (j - a) (by omega) (by simp) ⟨a, j, rfl, by omega, by omega, hlo, fun k y hk hy => ?_, rfl, by simp [forget, get]⟩
    by_cases hkj : k = j
    ·subst hkj; rw [hg] at hy; cases hy; exact hlt
    ·intro h2
     exact hlt (Fa (List.pairwise_iff_getElem.1 hs j k hh (List.getElem?_eq_some_iff.1 hy).1 (by omega) |> fun h => by rw [(List.getElem?_eq_some_iff.1 hy).2, (List.getElem?_eq_some_iff.1 hg).2] at h; exact h) h2)
  ·have hac2 : a = c := by omega
   subst hac2
   have hgo : TT Tryd.prog 82 = true := by kernel_rfl
   by_cases hal : a < l.length
   ·have hg : l[a]? = some l[a] := List.getElem?_eq_getElem hal
    have hp20 := h20 l[a] (List.getElem_mem hal)
    generalize l[a] = p at *
    simp -dsimp (disch := first | assumption | omega | (simp only [Ac]; done) | (simp only [Ac]; omega)) only [↓Ah, Ae, Ai, Ag, eq_self, forall_const, Nat.reduceLT, Nat.reduceEqDiff, Nat.reduceSub, Nat.reduceMul, Nat.reduceMod, Nat.reduceDiv, Nat.reducePow, UInt8.reduceToNat, Int.reduceEq, Int.reduceLT, Int.reduceLE, ↓reduceIte, Nat.reduceAdd, Int.reduceToNat, reduceCtorEq, Nat.reduceLeDiff, ↓Az, ↓AP, ↓Aq, hgo, hg, BB]
    rw [← BB]
    refine (Ai3 p id hp20 hi).calls rfl fun r hr => ?_
    subst hr
    by_cases heq : p.id = id
    ·have hc : Lib.compareBytes p.id id = ((0 : Nat) : Int) := by rw [heq]; simpa using Y2
     simp -dsimp (disch := first | assumption | omega | (simp only [Ac]; done) | (simp only [Ac]; omega)) only [↓Ah, Ae, Ai, Ag, eq_self, forall_const, Nat.reduceLT, Nat.reduceEqDiff, Nat.reduceSub, Nat.reduceMul, Nat.reduceMod, Nat.reduceDiv, Nat.reducePow, UInt8.reduceToNat, Int.reduceEq, Int.reduceLT, Int.reduceLE, ↓reduceIte, Nat.reduceAdd, Int.reduceToNat, reduceCtorEq, Nat.reduceLeDiff, ↓Aq, hc]
     exact ⟨a, hcl, hlo, hhi, by rw [show decide (∃ q, l[a]? = some q ∧ q.id = id) = true from decide_eq_true ⟨p, hg, heq⟩]⟩
    ·have hc : ¬ Lib.compareBytes p.id id = ((0 : Nat) : Int) := fun h => heq (AdJ (by simpa using h))
     simp -dsimp (disch := first | assumption | omega | (simp only [Ac]; done) | (simp only [Ac]; omega)) only [↓Ah, Ae, Ai, Ag, eq_self, forall_const, Nat.reduceLT, Nat.reduceEqDiff, Nat.reduceSub, Nat.reduceMul, Nat.reduceMod, Nat.reduceDiv, Nat.reducePow, UInt8.reduceToNat, Int.reduceEq, Int.reduceLT, Int.reduceLE, ↓reduceIte, Nat.reduceAdd, Int.reduceToNat, reduceCtorEq, Nat.reduceLeDiff, ↓Aq, hc]
     exact ⟨a, hcl, hlo, hhi, by rw [show decide (∃ q, l[a]? = some q ∧ q.id = id) = false from decide_eq_false fun ⟨q, h1, h2⟩ => by rw [hg] at h1; cases h1; exact heq h2]⟩
   ·have hac3 : l[a]? = none := List.getElem?_eq_none (by omega)
    simp -dsimp (disch := first | assumption | omega | (simp only [Ac]; done) | (simp only [Ac]; omega)) only [↓Ah, Ae, Ai, Ag, eq_self, forall_const, Nat.reduceLT, Nat.reduceEqDiff, Nat.reduceSub, Nat.reduceMul, Nat.reduceMod, Nat.reduceDiv, Nat.reducePow, UInt8.reduceToNat, Int.reduceEq, Int.reduceLT, Int.reduceLE, ↓reduceIte, Nat.reduceAdd, Int.reduceToNat, reduceCtorEq, Nat.reduceLeDiff, ↓Az, ↓AP, ↓Aq]
    exact ⟨a, hcl, hlo, hhi, by rw [show decide (∃ q, l[a]? = some q ∧ q.id = id) = false from decide_eq_false fun ⟨q, h1, h2⟩ => by rw [hac3] at h1; cases h1]⟩
/-- What Find answers. -/
def Asg (b id : List UInt8) (r : TV) : Prop := (Nc sha b → (∀ p, p ∈ Ha b → p.id = id → r = .tup [i64 p.off, .val .nilIface]) ∧ ((∀ p, p ∈ Ha b → p.id ≠ id) → r = .tup [i64 ((0 : Nat) : Int), .ifc 32 (i64 ((50 : Nat) : Int))])) ∧ (¬ Nc sha b → r = .tup [i64 ((0 : Nat) : Int), .ifc 32 (i64 ((42 : Nat) : Int))])
theorem Aot (b id : List UInt8) (hb : b.length ≤ 100000) (hi : id.length = 20) : J4 Tryd.prog 41 [slB b, .arr 20 1 (id.map by8)] (Asg b id) := by
 refine Ap.toFreshV (Zb (by simp) ?_)
 simp -dsimp (disch := first | assumption | omega | (simp only [Ac]; done) | (simp only [Ac]; omega)) only [↓Ah, Ae, Ai, Ag, eq_self, forall_const, Nat.reduceLT, Nat.reduceEqDiff, Nat.reduceSub, Nat.reduceMul, Nat.reduceMod, Nat.reduceDiv, Nat.reducePow, UInt8.reduceToNat, Int.reduceEq, Int.reduceLT, Int.reduceLE, ↓reduceIte, Nat.reduceAdd, Int.reduceToNat, reduceCtorEq, Nat.reduceLeDiff, ↓Ye, ↓UW]
 refine Ap.callsP ((Aox b hb).lends (args' := [slB b]) (by simp -dsimp (disch := first | assumption | omega | (simp only [Ac]; done) | (simp only [Ac]; omega)) only [↓Ah, Ae, Ai, Ag, eq_self, forall_const, Nat.reduceLT, Nat.reduceEqDiff, Nat.reduceSub, Nat.reduceMul, Nat.reduceMod, Nat.reduceDiv, Nat.reducePow, UInt8.reduceToNat, Int.reduceEq, Int.reduceLT, Int.reduceLE, ↓reduceIte, Nat.reduceAdd, Int.reduceToNat, reduceCtorEq, Nat.reduceLeDiff]) fun r hr => ?_)
 by_cases hg : Nc sha b
 ·rw [hr.1 hg]
  obtain ⟨hsp, hfit⟩ := hg.sorted EH
  have h20 := X7 hg.len
  have hll : (Ha b).length ≤ 100000 := by rw [PN]; omega
  simp -dsimp (disch := first | assumption | omega | (simp only [Ac]; done) | (simp only [Ac]; omega)) only [↓Ah, Ae, Ai, Ag, eq_self, forall_const, Nat.reduceLT, Nat.reduceEqDiff, Nat.reduceSub, Nat.reduceMul, Nat.reduceMod, Nat.reduceDiv, Nat.reducePow, UInt8.reduceToNat, Int.reduceEq, Int.reduceLT, Int.reduceLE, ↓reduceIte, Nat.reduceAdd, Int.reduceToNat, reduceCtorEq, Nat.reduceLeDiff, ↓Nq, ↓UY]
  generalize hL : Ha b = l at *
  refine (AhL l id hll hsp (fun p hp => (h20 p hp).1) hi).calls rfl ?_
  rintro _ ⟨i, hil, hlo, hhi, rfl⟩
  by_cases hf : ∃ p, l[i]? = some p ∧ p.id = id
  ·obtain ⟨p, hp, hpi⟩ := hf
   have hdt : decide (∃ p, l[i]? = some p ∧ p.id = id) = true := decide_eq_true ⟨p, hp, hpi⟩
   rw [hdt]
   simp -dsimp (disch := first | assumption | omega | (simp only [Ac]; done) | (simp only [Ac]; omega)) only [↓Ah, Ae, Ai, Ag, eq_self, forall_const, Nat.reduceLT, Nat.reduceEqDiff, Nat.reduceSub, Nat.reduceMul, Nat.reduceMod, Nat.reduceDiv, Nat.reducePow, UInt8.reduceToNat, Int.reduceEq, Int.reduceLT, Int.reduceLE, ↓reduceIte, Nat.reduceAdd, Int.reduceToNat, reduceCtorEq, Nat.reduceLeDiff, ↓MX, hp, BB]
   refine ⟨fun _ => ⟨fun q hq hqi => ?_, fun h => absurd hpi (h p (by rw [hL]; exact List.mem_of_getElem? hp))⟩, fun h => absurd hg h⟩
   rw [hL] at hq
   obtain ⟨j, hj⟩ := List.getElem?_of_mem hq
   obtain rfl := hsp.one hp hj (hpi.trans hqi.symm)
   rw [hp] at hj; cases hj; rfl
  ·have hdt : decide (∃ p, l[i]? = some p ∧ p.id = id) = false := decide_eq_false hf
   rw [hdt]
   simp -dsimp (disch := first | assumption | omega | (simp only [Ac]; done) | (simp only [Ac]; omega)) only [↓Ah, Ae, Ai, Ag, eq_self, forall_const, Nat.reduceLT, Nat.reduceEqDiff, Nat.reduceSub, Nat.reduceMul, Nat.reduceMod, Nat.reduceDiv, Nat.reducePow, UInt8.reduceToNat, Int.reduceEq, Int.reduceLT, Int.reduceLE, ↓reduceIte, Nat.reduceAdd, Int.reduceToNat, reduceCtorEq, Nat.reduceLeDiff, ↓MX]
   have hno := hsp.find hil hlo hhi fun p hp hpi => hf ⟨p, hp, hpi⟩
   refine ⟨fun _ => ⟨fun q hq hqi => absurd hqi (hno q (by rw [← hL]; exact hq)), fun _ => rfl⟩, fun h => absurd hg h⟩
 ·rw [hr.2 hg]
  simp -dsimp (disch := first | assumption | omega | (simp only [Ac]; done) | (simp only [Ac]; omega)) only [↓Ah, Ae, Ai, Ag, eq_self, forall_const, Nat.reduceLT, Nat.reduceEqDiff, Nat.reduceSub, Nat.reduceMul, Nat.reduceMod, Nat.reduceDiv, Nat.reducePow, UInt8.reduceToNat, Int.reduceEq, Int.reduceLT, Int.reduceLE, ↓reduceIte, Nat.reduceAdd, Int.reduceToNat, reduceCtorEq, Nat.reduceLeDiff, ↓Nq, ↓MX]
  exact ⟨fun h => absurd h hg, fun _ => rfl⟩
end Go.Proofs.YtmlompedpahkjaaDoor


namespace Go.Proofs.YtmlompedpahkjaaDoor
open Go.RowKit Kit
variable [BA]
set_option linter.unusedSectionVars false
set_option linter.unusedVariables false
set_option linter.unusedSimpArgs false

set_option maxRecDepth 100000 in
theorem Ae2 (b : List UInt8) (hb : b.length ≤ 100000) : J4 Tryd.prog 42 [slB b] (Arm (.tup [.sl 22 ((Ha b).map plT), .arr 20 1 ((Ic b).map by8), .val (.bool true)]) (.tup [.val (.slice none 0 0), .arr 20 1 (z20.map by8), .val (.bool false)]) b) := by
 refine Ap.toFreshV (Vh (by simp) ?_)
 have hz : z20.map by8 = List.replicate 20 (.val (.int .u8 ((0 : Nat) : Int))) := Adi
 simp only [List.replicate] at hz
 by_cases h1 : b.length < 1072
 ·simp -dsimp (disch := first | assumption | omega | (simp only [Ac]; done) | (simp only [Ac]; omega)) only [↓Ah, Ae, Ai, Ag, eq_self, forall_const, Nat.reduceLT, Nat.reduceEqDiff, Nat.reduceSub, Nat.reduceMul, Nat.reduceMod, Nat.reduceDiv, Nat.reducePow, UInt8.reduceToNat, Int.reduceEq, Int.reduceLT, Int.reduceLE, ↓reduceIte, Nat.reduceAdd, Int.reduceToNat, reduceCtorEq, Nat.reduceLeDiff, ↓GY, ↓DU, ↓D6, ↓CW]
  rw [← hz]
  exact ⟨fun h => absurd h.len (by omega), fun _ => rfl⟩
 have hsub : ∀ t, EF t .sub (.int .i64 (b.length : Int)) (.int .i64 ((1072 : Nat) : Int)) = some (.int .i64 ((b.length - 1072 : Nat) : Int)) := fun t => by rw [Ad2 (by omega) (by omega)]; congr 2; omega
 by_cases h2 : (b.length - 1072) % 28 = 0
 case neg =>
  simp -dsimp (disch := first | assumption | omega | (simp only [Ac]; done) | (simp only [Ac]; omega)) only [↓Ah, Ae, Ai, Ag, eq_self, forall_const, Nat.reduceLT, Nat.reduceEqDiff, Nat.reduceSub, Nat.reduceMul, Nat.reduceMod, Nat.reduceDiv, Nat.reducePow, UInt8.reduceToNat, Int.reduceEq, Int.reduceLT, Int.reduceLE, ↓reduceIte, Nat.reduceAdd, Int.reduceToNat, reduceCtorEq, Nat.reduceLeDiff, ↓GY, ↓DU, ↓D6, ↓CW, hsub]
  rw [← hz]
  exact ⟨fun h => absurd h.mod h2, fun _ => rfl⟩
 have hn : b.length = 1072 + 28 * ((b.length - 1072) / 28) := by omega
 simp -dsimp (disch := first | assumption | omega | (simp only [Ac]; done) | (simp only [Ac]; omega)) only [↓Ah, Ae, Ai, Ag, eq_self, forall_const, Nat.reduceLT, Nat.reduceEqDiff, Nat.reduceSub, Nat.reduceMul, Nat.reduceMod, Nat.reduceDiv, Nat.reducePow, UInt8.reduceToNat, Int.reduceEq, Int.reduceLT, Int.reduceLE, ↓reduceIte, Nat.reduceAdd, Int.reduceToNat, reduceCtorEq, Nat.reduceLeDiff, ↓GY, ↓DU, ↓D6, ↓CW, hsub, h2, ↓PV]
 rw [← hz]
 obtain ⟨n, hnn⟩ : ∃ n, n = (b.length - 1072) / 28 := ⟨_, rfl⟩
 rw [← hnn] at hn ⊢
 simp -dsimp (disch := first | assumption | omega | (simp only [Ac]; done) | (simp only [Ac]; omega)) only [↓Ah, Ae, Ai, Ag, eq_self, forall_const, Nat.reduceLT, Nat.reduceEqDiff, Nat.reduceSub, Nat.reduceMul, Nat.reduceMod, Nat.reduceDiv, Nat.reducePow, UInt8.reduceToNat, Int.reduceEq, Int.reduceLT, Int.reduceLE, ↓reduceIte, Nat.reduceAdd, Int.reduceToNat, reduceCtorEq, Nat.reduceLeDiff, ↓Qe, ↓PZ, ↓QZ]
 have hl0 : (Ha b).length = n := by rw [PN, hnn]
 refine Dq (fun m e H => ∃ (i v cp : Nat), m = n - i ∧ i ≤ n ∧ H[0]? = some (.obj 0 (.arr 20 1 (z20.map by8))) ∧ H[1]? = some (.obj 0 (.arr 20 1 (z20.map by8))) ∧ H[2]? = some (.obj v (.arr i 22 (((Ha b).take i).map plT))) ∧
  e = [(0, slB b), (3, .op 0 0 []), (5, .op 1 0 []), (6, i64 (n : Int)), (7, .os 22 2 v [] 0 i cp), (8, i64 (i : Int))]) n ?_ ?_
 ·exact ⟨0, 0, 0, by simp, by omega, rfl, rfl, by simp, by simp [forget, get]⟩
 ·rintro m e H ⟨i, v, cp, rfl, hi, hH0, hH1, hH2, rfl⟩
  have hHl : 2 < H.length := (List.getElem?_eq_some_iff.1 hH2).1
  by_cases c : i < n
  ·have hsucc := YR (b := b) (i := i) (by omega)
   rw [← hnn] at hsucc
   simp -dsimp (disch := first | assumption | omega | (simp only [Ac]; done) | (simp only [Ac]; omega)) only [↓Ah, Ae, Ai, Ag, eq_self, forall_const, Nat.reduceLT, Nat.reduceEqDiff, Nat.reduceSub, Nat.reduceMul, Nat.reduceMod, Nat.reduceDiv, Nat.reducePow, UInt8.reduceToNat, Int.reduceEq, Int.reduceLT, Int.reduceLE, ↓reduceIte, Nat.reduceAdd, Int.reduceToNat, reduceCtorEq, Nat.reduceLeDiff, ↓Jg, ↓I5, ↓QT]
   have hm20 : min (b.length - (1032 + 20 * i)) 20 = 20 := by omega
   rw [hm20]
   simp only [List.drop_succ_cons, List.drop_zero, List.append_nil]
   have e1 : (Yb b n i).id = (b.drop (1032 + 20 * i)).take 20 := rfl
   have e2 : (Yb b n i).crc = nm4 (b.drop (1032 + 20 * n + 4 * i)) := rfl
   have e3 : (Yb b n i).off = (nm4 (b.drop (1032 + 24 * n + 4 * i)) : Int) := rfl
   rw [← e1]
   generalize Yb b n i = p at *
   simp -dsimp (disch := first | assumption | omega | (simp only [Ac]; done) | (simp only [Ac]; omega)) only [↓Ah, Ae, Ai, Ag, eq_self, forall_const, Nat.reduceLT, Nat.reduceEqDiff, Nat.reduceSub, Nat.reduceMul, Nat.reduceMod, Nat.reduceDiv, Nat.reducePow, UInt8.reduceToNat, Int.reduceEq, Int.reduceLT, Int.reduceLE, ↓reduceIte, Nat.reduceAdd, Int.reduceToNat, reduceCtorEq, Nat.reduceLeDiff, ↓Rj]
   refine (Abr _ (by simp; omega) (by simp; omega)).calls rfl fun r hr => ?_
   subst hr
   rw [← e2]
   have hc4 : p.crc < 4294967296 := by rw [e2]; exact Zp _
   have hw : IntKind.u32.wrap (p.crc : Int) = (p.crc : Int) := Vz hc4
   simp -dsimp (disch := first | assumption | omega | (simp only [Ac]; done) | (simp only [Ac]; omega)) only [↓Ah, Ae, Ai, Ag, eq_self, forall_const, Nat.reduceLT, Nat.reduceEqDiff, Nat.reduceSub, Nat.reduceMul, Nat.reduceMod, Nat.reduceDiv, Nat.reducePow, UInt8.reduceToNat, Int.reduceEq, Int.reduceLT, Int.reduceLE, ↓reduceIte, Nat.reduceAdd, Int.reduceToNat, reduceCtorEq, Nat.reduceLeDiff, hw, ↓Rq]
   refine (Abr _ (by simp; omega) (by simp; omega)).calls rfl fun r hr => ?_
   subst hr
   rw [← e3]
   have ht1 : ∀ y : TV, List.take 1 [y] = [y] := fun y => rfl
   have hti : (((Ha b).take i).map plT).take i = ((Ha b).take i).map plT := List.take_of_length_le (by simp; omega)
   simp -dsimp (disch := first | assumption | omega | (simp only [Ac]; done) | (simp only [Ac]; omega)) only [↓Ah, Ae, Ai, Ag, eq_self, forall_const, Nat.reduceLT, Nat.reduceEqDiff, Nat.reduceSub, Nat.reduceMul, Nat.reduceMod, Nat.reduceDiv, Nat.reducePow, UInt8.reduceToNat, Int.reduceEq, Int.reduceLT, Int.reduceLE, ↓reduceIte, Nat.reduceAdd, Int.reduceToNat, reduceCtorEq, Nat.reduceLeDiff, hH2, U4, ht1, hti]
   rw [← BB, List.append_assoc]
   have hl2 : ∀ (T : List Ob) o k, k < 2 → (H.set 2 o ++ T)[k]? = H[k]? := fun T o k hk => by rw [List.getElem?_append_left (by simp; omega), List.getElem?_set_ne (by omega)]
   refine A8 (n - (i + 1)) (by omega) (by simp; omega) ⟨i + 1, v + 1, i + 1, rfl, by omega, ?_, ?_, ?_, by simp [forget, get]⟩
   ·rw [hl2 _ _ 0 (by omega)]; exact hH0
   ·rw [hl2 _ _ 1 (by omega)]; exact hH1
   ·rw [List.getElem?_append_left (by simp; omega), List.getElem?_set_self (by omega), hsucc]
    simp
  ·have hi2 : i = n := by omega
   subst hi2
   rw [List.take_of_length_le (by omega)] at hH2
   have hsub2 : ∀ t, EF t .sub (.int .i64 (b.length : Int)) (.int .i64 ((40 : Nat) : Int)) = some (.int .i64 ((b.length - 40 : Nat) : Int)) := fun t => by rw [Ad2 (by omega) (by omega)]; congr 2; omega
   have hid := X7 (b := b) (by omega)
   have hsl : (Ic b).length = 20 := V6 (by omega)
   have hse : List.take 20 (List.drop (b.length - 40) b) = Ic b := rfl
   have htk : ((Ha b).map plT).take i = (Ha b).map plT := List.take_of_length_le (by simp; omega)
   have hgx : Nc sha b ↔ wrF sha (Ha b) (Ic b) = some b := ⟨fun h => h.is, fun h => ⟨by omega, h2, h⟩⟩
   simp -dsimp (disch := first | assumption | omega | (simp only [Ac]; done) | (simp only [Ac]; omega)) only [↓Ah, Ae, Ai, Ag, eq_self, forall_const, Nat.reduceLT, Nat.reduceEqDiff, Nat.reduceSub, Nat.reduceMul, Nat.reduceMod, Nat.reduceDiv, Nat.reducePow, UInt8.reduceToNat, Int.reduceEq, Int.reduceLT, Int.reduceLE, ↓reduceIte, Nat.reduceAdd, Int.reduceToNat, reduceCtorEq, Nat.reduceLeDiff, ↓Jg, ↓I5, ↓Q4, hsub2, hse, hH1]
   have hm20 : min (b.length - (b.length - 40)) 20 = 20 := by omega
   have hdz : List.drop 20 z20 = [] := rfl
   rw [hm20, hdz, List.map_nil, List.append_nil]
   have l1 : 1 < H.length := by omega
   have hS0 : (H.set 1 (Ob.obj 0 (TV.arr 20 1 (List.map by8 (Ic b)))))[0]? = some (.obj 0 (.arr 20 1 (z20.map by8))) := by rw [List.getElem?_set_ne (by omega)]; exact hH0
   have hS1 : (H.set 1 (Ob.obj 0 (TV.arr 20 1 (List.map by8 (Ic b)))))[1]? = some (.obj 0 (.arr 20 1 ((Ic b).map by8))) := List.getElem?_set_self l1
   have hS2 : (H.set 1 (Ob.obj 0 (TV.arr 20 1 (List.map by8 (Ic b)))))[2]? = some (Ob.obj v (.arr i 22 ((Ha b).map plT))) := by rw [List.getElem?_set_ne (by omega)]; exact hH2
   have l3 : 2 < (H.set 1 (Ob.obj 0 (TV.arr 20 1 (List.map by8 (Ic b))))).length := by simpa using hHl
   generalize H.set 1 (Ob.obj 0 (TV.arr 20 1 (List.map by8 (Ic b)))) = H3 at *
   simp -dsimp (disch := first | assumption | omega | (simp only [Ac]; done) | (simp only [Ac]; omega)) only [↓Ah, Ae, Ai, Ag, eq_self, forall_const, Nat.reduceLT, Nat.reduceEqDiff, Nat.reduceSub, Nat.reduceMul, Nat.reduceMod, Nat.reduceDiv, Nat.reducePow, UInt8.reduceToNat, Int.reduceEq, Int.reduceLT, Int.reduceLE, ↓reduceIte, Nat.reduceAdd, Int.reduceToNat, reduceCtorEq, Nat.reduceLeDiff, ↓QI, hS1]
   generalize Ic b = sm at *
   generalize Ha b = l at *
   refine (Ad0 l (by omega) (fun p hp => (hid p hp).1) (fun p hp => (hid p hp).2.1) sm hsl).lends (args' := [.sl 22 (l.map plT), .arr 20 1 (sm.map by8)]) (by simp -dsimp (disch := first | assumption | omega | (simp only [Ac]; done) | (simp only [Ac]; omega)) only [↓Ah, Ae, Ai, Ag, eq_self, forall_const, Nat.reduceLT, Nat.reduceEqDiff, Nat.reduceSub, Nat.reduceMul, Nat.reduceMod, Nat.reduceDiv, Nat.reducePow, UInt8.reduceToNat, Int.reduceEq, Int.reduceLT, Int.reduceLE, ↓reduceIte, Nat.reduceAdd, Int.reduceToNat, reduceCtorEq, Nat.reduceLeDiff, hS2, htk]) fun r hr => ?_
   cases hw : wrF sha l sm with
   | none =>
    rw [hr.2 hw]
    have hng : ¬ Nc sha b := fun h => by rw [hgx, hw] at h; cases h
    simp -dsimp (disch := first | assumption | omega | (simp only [Ac]; done) | (simp only [Ac]; omega)) only [↓Ah, Ae, Ai, Ag, eq_self, forall_const, Nat.reduceLT, Nat.reduceEqDiff, Nat.reduceSub, Nat.reduceMul, Nat.reduceMod, Nat.reduceDiv, Nat.reducePow, UInt8.reduceToNat, Int.reduceEq, Int.reduceLT, Int.reduceLE, ↓reduceIte, Nat.reduceAdd, Int.reduceToNat, reduceCtorEq, Nat.reduceLeDiff, ↓Eo, ↓CW, hS0, hS1, hS2]
    rw [← hz]
    exact ⟨fun h => absurd h hng, fun _ => rfl⟩
   | some x =>
    rw [hr.1 x hw]
    by_cases hx : x = b
    ·have hg : Nc sha b := by rw [hgx, hw, hx]
     simp -dsimp (disch := first | assumption | omega | (simp only [Ac]; done) | (simp only [Ac]; omega)) only [↓Ah, Ae, Ai, Ag, eq_self, forall_const, Nat.reduceLT, Nat.reduceEqDiff, Nat.reduceSub, Nat.reduceMul, Nat.reduceMod, Nat.reduceDiv, Nat.reducePow, UInt8.reduceToNat, Int.reduceEq, Int.reduceLT, Int.reduceLE, ↓reduceIte, Nat.reduceAdd, Int.reduceToNat, reduceCtorEq, Nat.reduceLeDiff, ↓Eo, ↓CW, hS0, hS1, hS2, hx, htk]
     rw [XK]
     exact ⟨fun _ => rfl, fun h => absurd hg h⟩
    ·have hng : ¬ Nc sha b := fun h => by rw [hgx, hw] at h; exact hx (Option.some.inj h)
     simp -dsimp (disch := first | assumption | omega | (simp only [Ac]; done) | (simp only [Ac]; omega)) only [↓Ah, Ae, Ai, Ag, eq_self, forall_const, Nat.reduceLT, Nat.reduceEqDiff, Nat.reduceSub, Nat.reduceMul, Nat.reduceMod, Nat.reduceDiv, Nat.reducePow, UInt8.reduceToNat, Int.reduceEq, Int.reduceLT, Int.reduceLE, ↓reduceIte, Nat.reduceAdd, Int.reduceToNat, reduceCtorEq, Nat.reduceLeDiff, ↓Eo, ↓CW, hS0, hS1, hS2, hx]
     rw [← hz]
     exact ⟨fun h => absurd h hng, fun _ => rfl⟩
end Go.Proofs.YtmlompedpahkjaaDoor


namespace Go.Proofs.YtmlompedpahkjaaDoor
open Go.RowKit
variable [BA]
set_option linter.unusedSectionVars false
set_option linter.unusedVariables false
set_option linter.unusedSimpArgs false

theorem Ada {l m : List UInt8} {k : Nat} (h : l.take k = m.take k) (h1 : k < l.length) (h2 : k < m.length) (e : l[k] = m[k]) : l.take (k + 1) = m.take (k + 1) := by
 rw [List.take_succ_eq_append_getElem h1, List.take_succ_eq_append_getElem h2, h, e]
theorem ApY {x y : UInt8} (h : x ≠ y) : ¬ (x.toNat = y.toNat) := fun e => h (UInt8.toNat_inj.1 e)

/-- Same: the same bytes? -/
theorem same (l m : List UInt8) (hl : l.length ≤ 9223372036854775807) (hm : m.length ≤ 9223372036854775807) : D5 Tryd.prog 12 [slB l, slB m] (fun x => x = tb (decide (l = m))) := by
 refine Ap.toPureV (Zy (by simp) ?_)
 by_cases hlen : l.length = m.length
 case neg =>
  have hne : l ≠ m := fun e => hlen (by rw [e])
  simp -dsimp (disch := first | assumption | omega) only [↓Ah, Ae, Ai, Ag, eq_self, forall_const, Nat.reduceLT, Nat.reduceEqDiff, Nat.reduceSub, Nat.reduceMul, Nat.reduceMod, Nat.reduceDiv, Nat.reducePow, UInt8.reduceToNat, Int.reduceEq, Int.reduceLT, Int.reduceLE, ↓reduceIte, Nat.reduceAdd, Int.reduceToNat, reduceCtorEq, Nat.reduceLeDiff, ↓Iu, decide_eq_false hne]
 simp -dsimp (disch := first | assumption | omega) only [↓Ah, Ae, Ai, Ag, eq_self, forall_const, Nat.reduceLT, Nat.reduceEqDiff, Nat.reduceSub, Nat.reduceMul, Nat.reduceMod, Nat.reduceDiv, Nat.reducePow, UInt8.reduceToNat, Int.reduceEq, Int.reduceLT, Int.reduceLE, ↓reduceIte, Nat.reduceAdd, Int.reduceToNat, reduceCtorEq, Nat.reduceLeDiff, ↓Iu]
 refine Dq (fun n e H => ∃ (k : Nat), n = l.length - k ∧ k ≤ l.length ∧ l.take k = m.take k ∧ e = [(0, slB l), (1, slB m), (5, i64 (k : Int))] ∧ H = []) l.length ?_ ?_
 ·exact ⟨0, by simp, by omega, by simp, rfl, rfl⟩
 ·rintro n e H ⟨k, rfl, hk, ht, rfl, rfl⟩
  by_cases hkl : k < l.length
  ·have hkm : k < m.length := by omega
   have g1 : l[k]? = some l[k] := by simp [hkl]
   have g2 : m[k]? = some m[k] := by simp [hkm]
   by_cases he : l[k] = m[k]
   ·have hx := Ada ht hkl hkm he
    have he' : l[k].toNat = m[k].toNat := by rw [he]
    simp -dsimp (disch := first | assumption | omega) only [↓Ah, Ae, Ai, Ag, eq_self, forall_const, Nat.reduceLT, Nat.reduceEqDiff, Nat.reduceSub, Nat.reduceMul, Nat.reduceMod, Nat.reduceDiv, Nat.reducePow, UInt8.reduceToNat, Int.reduceEq, Int.reduceLT, Int.reduceLE, ↓reduceIte, Nat.reduceAdd, Int.reduceToNat, reduceCtorEq, Nat.reduceLeDiff, ↓Iu, g1, g2]
    exact A8 (l.length - (k + 1)) (by omega) (by simp) ⟨k + 1, rfl, by omega, hx, rfl, rfl⟩
   ·have he' := ApY he
    have hne : l ≠ m := fun e => he (by subst e; rfl)
    simp -dsimp (disch := first | assumption | omega) only [↓Ah, Ae, Ai, Ag, eq_self, forall_const, Nat.reduceLT, Nat.reduceEqDiff, Nat.reduceSub, Nat.reduceMul, Nat.reduceMod, Nat.reduceDiv, Nat.reducePow, UInt8.reduceToNat, Int.reduceEq, Int.reduceLT, Int.reduceLE, ↓reduceIte, Nat.reduceAdd, Int.reduceToNat, reduceCtorEq, Nat.reduceLeDiff, ↓Iu, g1, g2, decide_eq_false hne]
  ·have hke : k = l.length := by omega
   have heq : l = m := by rw [hke, List.take_length, hlen, List.take_length] at ht; exact ht
   simp -dsimp (disch := first | assumption | omega) only [↓Ah, Ae, Ai, Ag, eq_self, forall_const, Nat.reduceLT, Nat.reduceEqDiff, Nat.reduceSub, Nat.reduceMul, Nat.reduceMod, Nat.reduceDiv, Nat.reducePow, UInt8.reduceToNat, Int.reduceEq, Int.reduceLT, Int.reduceLE, ↓reduceIte, Nat.reduceAdd, Int.reduceToNat, reduceCtorEq, Nat.reduceLeDiff, ↓Iu, decide_eq_true heq]
/-- Roomy: the same bytes, with two more in their spare room. -/
theorem AnR (l : List UInt8) (hl : l.length ≤ 1000000) {H : List Ob} {K : TV → List Ob → Prop} (hk : K (.os 1 H.length 0 [] 0 l.length (l.length + 2)) (H ++ [.obj 0 (.arr (l.length + 2) 1 ((l ++ [71, 72]).map by8))])) :
  Ap Tryd.prog 8 [slB l] H K := by
 refine Yr (by simp) ?_
 have c2 : ((l.length : Int) + 2) = ((l.length + 2 : Nat) : Int) := by omega
 have b1 : ((1 : Nat) : Int) * ((l.length + 2 : Nat) : Int) ≤ 281474976710656 := by omega
 have b2 : ((l.length + 2 : Nat) : Int) ≤ 9223372036854775807 := by omega
 have z : ∀ n : Nat, List.replicate n (TV.val (.int .u8 ((0 : Nat) : Int))) = (List.replicate n (0 : UInt8)).map by8 := fun n => by rw [List.map_replicate]; rfl
 have e1 : List.map by8 l ++ List.drop (min l.length (l.length + 2)) (List.replicate (l.length + 2) (TV.val (.int .u8 ((0 : Nat) : Int)))) = (l ++ [0, 0]).map by8 := by
  rw [z, ← List.map_drop, ← List.map_append, Nat.min_eq_left (by omega), List.drop_replicate, show l.length + 2 - l.length = 2 from by omega]; rfl
 have e2 : ((l ++ [0, 0]).map by8).set l.length (.val (.int .u8 ((71 : Nat) : Int))) = (l ++ [71, 0]).map by8 := by
  rw [List.map_append, List.set_append_right _ _ (by simp), List.map_append]; simp
 have e3 : ((l ++ [71, 0]).map by8).set (l.length + 1) (.val (.int .u8 ((72 : Nat) : Int))) = (l ++ [71, 72]).map by8 := by
  rw [List.map_append, List.set_append_right _ _ (by simp), List.map_append]; simp
 have g1 : ((l ++ [0, 0]).map by8)[l.length]? = some (by8 0) := by simp
 have g2 : ((l ++ [71, 0]).map by8)[l.length + 1]? = some (by8 0) := by simp
 simp -dsimp (disch := first | assumption | omega | (simp only [Ac]; done) | (simp only [Ac]; omega)) only [↓Ah, Ae, Ai, Ag, eq_self, forall_const, Nat.reduceLT, Nat.reduceEqDiff, Nat.reduceSub, Nat.reduceMul, Nat.reduceMod, Nat.reduceDiv, Nat.reducePow, UInt8.reduceToNat, Int.reduceEq, Int.reduceLT, Int.reduceLE, ↓reduceIte, Nat.reduceAdd, Int.reduceToNat, reduceCtorEq, Nat.reduceLeDiff, ↓Y1, c2, e1, e2, e3, g1, g2]
 exact hk
abbrev x85 (l : List UInt8) : List UInt8 := l.map (· ^^^ 85)
theorem AfI {c : List UInt8} {k : Nat} (hk : k < c.length) : (x85 (c.take k) ++ c.drop k).set k (c[k] ^^^ 85) = x85 (c.take (k + 1)) ++ c.drop (k + 1) := by
 have h1 : (x85 (c.take k)).length = k := by simp; omega
 rw [List.set_append_right _ _ (by omega), h1, Nat.sub_self, List.drop_eq_getElem_cons hk, List.set_cons_zero, List.take_succ_eq_append_getElem hk, x85, x85, List.map_append, List.append_assoc]
 rfl

/-- Still: aS they were; then their owner writes into them. -/
theorem Yn (l : List UInt8) (hl : l.length ≤ 1000000) {H : List Ob} {id ver : Nat} {K : TV → List Ob → Prop} (ho : H[id]? = some (.obj ver (.arr (l.length + 2) 1 ((l ++ [71, 72]).map by8))))
  (hk : K (tb true) (H.set id (.obj ver (.arr (l.length + 2) 1 ((x85 (l ++ [71, 72])).map by8))))) :
  Ap Tryd.prog 10 [.os 1 id ver [] 0 l.length (l.length + 2), slB l] H K := by
 refine X3 (by simp) ?_
 have hid : id < H.length := (List.getElem?_eq_some_iff.1 ho).1
 have c2 : ((l.length : Int) + 2) = ((l.length + 2 : Nat) : Int) := by omega
 have g1 : (l ++ [71, 72])[l.length]? = some 71 := by simp
 have g2 : (l ++ [71, 72])[l.length + 1]? = some 72 := by simp
 have hL : (l ++ [71, 72]).length = l.length + 2 := by simp
 have ht : (l ++ [71, 72]).take l.length = l := by simp
 generalize hc : l ++ [71, 72] = c at *
 simp -dsimp (disch := first | assumption | omega | (simp only [Ac]; done) | (simp only [Ac]; omega)) only [↓Ah, Ae, Ai, Ag, eq_self, forall_const, Nat.reduceLT, Nat.reduceEqDiff, Nat.reduceSub, Nat.reduceMul, Nat.reduceMod, Nat.reduceDiv, Nat.reducePow, UInt8.reduceToNat, Int.reduceEq, Int.reduceLT, Int.reduceLE, ↓reduceIte, Nat.reduceAdd, Int.reduceToNat, reduceCtorEq, Nat.reduceLeDiff, ↓KH, c2, ho]
 refine (same l l (by omega) (by omega)).lends (args' := [slB l, slB l]) (by simp -dsimp (disch := first | assumption | omega) only [↓Ah, Ae, Ai, Ag, eq_self, forall_const, Nat.reduceLT, Nat.reduceEqDiff, Nat.reduceSub, Nat.reduceMul, Nat.reduceMod, Nat.reduceDiv, Nat.reducePow, UInt8.reduceToNat, Int.reduceEq, Int.reduceLT, Int.reduceLE, ↓reduceIte, Nat.reduceAdd, Int.reduceToNat, reduceCtorEq, Nat.reduceLeDiff, ho, hL, ht]) ?_
 rintro x rfl
 refine ⟨rfl, ?_⟩
 rw [show tb (decide (l = l)) = tb true from by simp]
 simp -dsimp (disch := first | assumption | omega | (simp only [Ac]; done) | (simp only [Ac]; omega)) only [↓Ah, Ae, Ai, Ag, eq_self, forall_const, Nat.reduceLT, Nat.reduceEqDiff, Nat.reduceSub, Nat.reduceMul, Nat.reduceMod, Nat.reduceDiv, Nat.reducePow, UInt8.reduceToNat, Int.reduceEq, Int.reduceLT, Int.reduceLE, ↓reduceIte, Nat.reduceAdd, Int.reduceToNat, reduceCtorEq, Nat.reduceLeDiff, ↓KH, ho, g1, g2]
 ·refine Dq (fun n e H' => ∃ (k : Nat), n = c.length - k ∧ k ≤ c.length ∧ e = [(6, .os 1 id ver [] 0 (l.length + 2) (l.length + 2)), (7, tb true), (8, i64 (k : Int))] ∧ H' = H.set id (.obj ver (.arr (l.length + 2) 1 ((x85 (c.take k) ++ c.drop k).map by8)))) c.length ?_ ?_
  ·refine ⟨0, by simp, by omega, rfl, ?_⟩
   have e0 : x85 (c.take 0) ++ c.drop 0 = c := by simp
   obtain ⟨h1, h2⟩ := List.getElem?_eq_some_iff.1 ho
   rw [e0, ← h2, List.set_getElem_self]
  ·rintro n e H' ⟨k, rfl, hkl, rfl, rfl⟩
   have gs : ∀ o, (H.set id o)[id]? = some o := fun o => by simp [hid]
   by_cases hkc : k < c.length
   ·have hk2 : k < l.length + 2 := by omega
    have hlen : (x85 (c.take k)).length = k := by simp; omega
    have g3 : (x85 (c.take k) ++ c.drop k)[k]? = some c[k] := by
     rw [List.getElem?_append_right (by omega), hlen, Nat.sub_self, List.getElem?_drop]; simp [hkc]
    have g4 := AfI hkc
    have h85 : ∀ (t : TypeId) (x : UInt8), EF t .xor (.int .u8 (x.toNat : Int)) (.int .u8 ((85 : Nat) : Int)) = some (.int .u8 ((x ^^^ 85).toNat : Int)) := fun t x => Ai0 (t := t) (x := x) (y := 85)
    generalize x85 (c.take k) ++ c.drop k = r at *
    generalize c[k] = y at *
    simp -dsimp (disch := first | assumption | omega | (simp only [Ac]; done) | (simp only [Ac]; omega)) only [↓Ah, Ae, Ai, Ag, eq_self, forall_const, Nat.reduceLT, Nat.reduceEqDiff, Nat.reduceSub, Nat.reduceMul, Nat.reduceMod, Nat.reduceDiv, Nat.reducePow, UInt8.reduceToNat, Int.reduceEq, Int.reduceLT, Int.reduceLE, ↓reduceIte, Nat.reduceAdd, Int.reduceToNat, reduceCtorEq, Nat.reduceLeDiff, ↓KH, gs, g3, g4, h85, Agd, List.set_set]
    exact A8 (c.length - (k + 1)) (by omega) (by simp) ⟨k + 1, rfl, by omega, rfl, rfl⟩
   ·have hke : k = c.length := by omega
    have hk2 : ¬ k < l.length + 2 := by omega
    have e0 : x85 (c.take k) ++ c.drop k = x85 c := by rw [hke, List.take_length, List.drop_length, List.append_nil]
    have e1 : List.drop k c = [] := by rw [hke, List.drop_length]
    simp -dsimp (disch := first | assumption | omega | (simp only [Ac]; done) | (simp only [Ac]; omega)) only [↓Ah, Ae, Ai, Ag, eq_self, forall_const, Nat.reduceLT, Nat.reduceEqDiff, Nat.reduceSub, Nat.reduceMul, Nat.reduceMod, Nat.reduceDiv, Nat.reducePow, UInt8.reduceToNat, Int.reduceEq, Int.reduceLT, Int.reduceLE, ↓reduceIte, Nat.reduceAdd, Int.reduceToNat, reduceCtorEq, Nat.reduceLeDiff, ↓KH]
    rw [e1, List.append_nil]
    exact hk
end Go.Proofs.YtmlompedpahkjaaDoor


namespace Go.Proofs.YtmlompedpahkjaaDoor
open Go.RowKit Go.Extern.Stop Go.Stop Go.Extern
variable [BA]
set_option linter.unusedSectionVars false


theorem AaF (t : Addr) (w : World) : (ReflectliteValue.unpack (.iface 69 (.pointer (some t)))).run Tryd.prog w
  = .ok (.agg #[.pointer (some ⟨9, 69, none⟩), .pointer (some ⟨w.heap.size, 0, none⟩), .int .u64 150]) (w.alloc (.cells #[.pointer (some t)] 69)) := by kernel_rfl
theorem Agj (a : Addr) (w : World) : (ReflectliteValue.methodAny (ReflectliteValue.valueError "reflectlite.Value.Type" 0) (fun t _ _ _ => ReflectliteType.toType t) #[.agg #[.pointer (some ⟨9, 69, none⟩), .pointer (some a), .int .u64 150]]).run Tryd.prog w
  = .ok (.iface 172 (.agg #[.pointer (some ⟨9, 69, none⟩)])) w := by kernel_rfl
theorem Y4 (h : Value) (w : World) : (Go.method 406 172 (.agg #[h]) "Kind").run Tryd.prog w = .ok (217, h) w := by kernel_rfl
theorem Aij (w : World) : ((ReflectliteType.abiMethod fun t => (fun a : Nat => Value.int IntKind.u8 (a : Int)) <$> Rtype.kind t) #[.pointer (some ⟨9, 69, none⟩)]).run Tryd.prog w = .ok (.int .u8 22) w := by kernel_rfl
theorem Ag8 (w : World) : ((ReflectliteType.abiMethod fun t => (fun a : Nat => Value.int IntKind.u8 (a : Int)) <$> Rtype.kind t) #[.pointer (some ⟨9, 32, none⟩)]).run Tryd.prog w = .ok (.int .u8 2) w := by kernel_rfl

theorem rlm (z : Sem Value) (f : TypeId → Addr → Nat → Nat → Sem Value) (v : Value) :
  ReflectliteValue.method z f #[v] = (do match ← ReflectliteValue.parts v with | none => z | some (t, a, fl) => f t a fl (fl % 32)) := rfl
theorem YX (a : Addr) (w : World) : (ReflectliteValue.parts (.agg #[.pointer (some ⟨9, 69, none⟩), .pointer (some a), .int .u64 150])).run Tryd.prog w = .ok (some (69, a, 150)) w := by kernel_rfl
/-- (Value).IsNil at the Value of a **p.E that is not nil. -/
theorem AeQ (a p : Addr) (W : World) (ha : W.cell? a = some (.pointer (some p))) :
  (ReflectliteValue.method (ReflectliteValue.valueError "reflectlite.Value.IsNil" 0) ReflectliteValue.isNil #[.agg #[.pointer (some ⟨9, 69, none⟩), .pointer (some a), .int .u64 150]]).run Tryd.prog W = .ok (.bool false) W := by
 rw [rlm]
 simp only [Sem.run_bind, YX, Result.andThen]
 simp [ReflectliteValue.isNil, loadVar, isAgg, underlying, Tryd.underlying69, ha, Result.andThen]

theorem YO (h : Value) (w : World) : (Go.method 406 172 (.agg #[h]) "Elem").run Tryd.prog w = .ok (228, .agg #[h]) w := by kernel_rfl
theorem Sl (h : Value) (w : World) : (Go.method 406 172 (.agg #[h]) "Implements").run Tryd.prog w = .ok (229, .agg #[h]) w := by kernel_rfl
theorem PX (h : Value) (w : World) : (Go.method 406 172 (.agg #[h]) "AssignableTo").run Tryd.prog w = .ok (226, .agg #[h]) w := by kernel_rfl
theorem Aiq (w : World) : (ReflectliteType.method ReflectliteType.elem #[.agg #[.pointer (some ⟨9, 69, none⟩)]]).run Tryd.prog w = .ok (.iface 172 (.agg #[.pointer (some ⟨9, 32, none⟩)])) w := by kernel_rfl
theorem WH (w : World) : (ReflectliteType.relation "Implements" ReflectliteType.implements_ #[.agg #[.pointer (some ⟨9, 32, none⟩)], .iface 172 (.agg #[.pointer (some ⟨9, 26, none⟩)])]).run Tryd.prog w = .ok (.bool true) w := by kernel_rfl
theorem Ab3 (v : Value) (w : World) : (ReflectliteType.typeOf #[.iface 32 v]).run Tryd.prog w = .ok (.iface 172 (.agg #[.pointer (some ⟨9, 32, none⟩)])) w := by kernel_rfl
theorem WX (w : World) : (ReflectliteType.relation "AssignableTo" ReflectliteType.assignableTo #[.agg #[.pointer (some ⟨9, 32, none⟩)], .iface 172 (.agg #[.pointer (some ⟨9, 32, none⟩)])]).run Tryd.prog w = .ok (.bool true) w := by kernel_rfl
theorem Aak (e : Int) (w : World) : (ReflectliteValue.unpack (.iface 32 (.int .i64 e))).run Tryd.prog w
  = .ok (.agg #[.pointer (some ⟨9, 32, none⟩), .pointer (some ⟨w.heap.size, 0, none⟩), .int .u64 130]) (w.alloc (.cells #[.int .i64 e] 32)) := by kernel_rfl

theorem AbU (w : World) : (Rtype.elem? 69).run Tryd.prog w = .ok (some 32) w := by kernel_rfl
theorem AmQ (p : Addr) (w : World) : (ReflectliteValue.mk 32 p ReflectliteValue.flagAddr).run Tryd.prog w = .ok (.agg #[.pointer (some ⟨9, 32, none⟩), .pointer (some p), .int .u64 386]) w := by kernel_rfl
/-- (Value).Elem at the Value of a **p.E that is not nil: the Value of the *p.E variable that it points to, addressable. -/
theorem AeT (a p : Addr) (W : World) (ha : W.cell? a = some (.pointer (some p))) :
  (ReflectliteValue.method (ReflectliteValue.valueError "reflectlite.Value.Elem" 0) ReflectliteValue.elem #[.agg #[.pointer (some ⟨9, 69, none⟩), .pointer (some a), .int .u64 150]]).run Tryd.prog W
   = .ok (.agg #[.pointer (some ⟨9, 32, none⟩), .pointer (some p), .int .u64 386]) W := by
 rw [rlm]
 simp only [Sem.run_bind, YX, Result.andThen]
 simp [ReflectliteValue.elem, loadVar, isAgg, underlying, Tryd.underlying69, ha, Result.andThen, AbU, AmQ]
theorem rls (v x : Value) : ReflectliteValue.set #[v, x] = (do
  let (some (dst, a, fl), some (src, b, _)) := (← ReflectliteValue.parts v, ← ReflectliteValue.parts x)
   | unsupported (.noEntry "extern/(internal/reflectlite.Value).Set.zeroValue")
  if fl / ReflectliteValue.flagAddr % 2 == 0 then unsupported (.noEntry "extern/(internal/reflectlite.Value).Set.unaddressable")
  let val ← loadVar src b
  if ← Rtype.directlyAssignable dst src then storeVar dst a val
  else if ← Rtype.implements dst src then
   if (← Rtype.kind src) == 20 then
    match val with
    | .nilIface => unsupported (.noEntry "extern/reflectlite: a nil value of one interface type handed on as a value of another")
    | _ => storeVar dst a val
   else storeVar dst a (.iface src val)
  else panicString ("reflectlite.Set: value of type " ++ (← Rtype.spelt src) ++ " is not assignable to type " ++ (← Rtype.spelt dst))
  pure (.tuple #[])) := rfl
theorem Ab6 (a : Addr) (w : World) : (ReflectliteValue.parts (.agg #[.pointer (some ⟨9, 32, none⟩), .pointer (some a), .int .u64 386])).run Tryd.prog w = .ok (some (32, a, 386)) w := by kernel_rfl
theorem AcS (a : Addr) (w : World) : (ReflectliteValue.parts (.agg #[.pointer (some ⟨9, 32, none⟩), .pointer (some a), .int .u64 130])).run Tryd.prog w = .ok (some (32, a, 130)) w := by kernel_rfl
theorem AbX (w : World) : (Rtype.directlyAssignable 32 32).run Tryd.prog w = .ok true w := by kernel_rfl
/-- (Value).Set: the *p.E variable at 'ta' gets what the Value's own variable 'b' holds. -/
theorem Akd (ta b : Addr) (e : Int) (old : Value) (W : World) (hb : W.cell? b = some (.int .i64 e)) (ht : W.cell? ta = some old) (hf : W.frozen? ta = false) :
  (ReflectliteValue.set #[.agg #[.pointer (some ⟨9, 32, none⟩), .pointer (some ta), .int .u64 386], .agg #[.pointer (some ⟨9, 32, none⟩), .pointer (some b), .int .u64 130]]).run Tryd.prog W
   = .ok (.tuple #[]) (W.setCell ta (.int .i64 e)) := by
 rw [rls]
 simp only [Sem.run_bind, Ab6, AcS, Result.andThen]
 simp [ReflectliteValue.flagAddr, loadVar, isAgg, underlying, Tryd.underlying32, hb, Result.andThen, AbX, storeVar, Value.cells, storeCells, Addr.add]
 rw [run_store Tryd.prog W ta _ _ (by rfl)]
 simp [ht, hf]

set_option maxHeartbeats 4000000 in
theorem AnC (e : Int) (t : Addr) (old : Value) (w : World) (hg : w.cell? ⟨0, 0, none⟩ = some (.iface 172 (.agg #[.pointer (some ⟨9, 26, none⟩)]))) (ht0 : w.cell? t = some old) (hf0 : w.frozen? t = false) :
  Calls Tryd.prog 29 #[.iface 32 (.int .i64 e), .iface 69 (.pointer (some t))] w fun ev w' => ev = .returned (.bool true) ∧ w' = ((((w.alloc (.cells #[.pointer (some t)] 69)).alloc (.cells #[.pointer (some ⟨9, 69, none⟩), .pointer (some ⟨w.heap.size, 0, none⟩), .int .u64 150] 121)).alloc (.cells #[.pointer (some ⟨9, 69, none⟩), .pointer (some ⟨w.heap.size, 0, none⟩), .int .u64 150] 121)).alloc (.cells #[.int .i64 e] 32)).setCell t (.int .i64 e) := by
 have h6 := @run_callFunc_extern Tryd.prog 65 _ (fun args => ReflectliteValue.unpack (args.getD 0 (.tuple #[]))) Tryd.func65 (by kernel_rfl) (by kernel_rfl) (by kernel_rfl) (by kernel_rfl)
 have h7 := @run_callFunc_extern Tryd.prog 66 _ (ReflectliteValue.methodAny (ReflectliteValue.valueError "reflectlite.Value.Type" 0) (fun t _ _ _ => ReflectliteType.toType t)) Tryd.func66 (by kernel_rfl) (by kernel_rfl) (by kernel_rfl) (by kernel_rfl)
 have h8 := @run_callFunc_extern Tryd.prog 67 _ (ReflectliteValue.method (ReflectliteValue.valueError "reflectlite.Value.IsNil" 0) ReflectliteValue.isNil) Tryd.func67 (by kernel_rfl) (by kernel_rfl) (by kernel_rfl) (by kernel_rfl)
 have h27 := @run_callFunc_extern Tryd.prog 217 _ (ReflectliteType.abiMethod fun t => do pure (.int .u8 (← Rtype.kind t))) Tryd.func217 (by kernel_rfl) (by kernel_rfl) (by kernel_rfl) (by kernel_rfl)
 have h37 := @run_callFunc_extern Tryd.prog 228 _ (ReflectliteType.method ReflectliteType.elem) Tryd.func228 (by kernel_rfl) (by kernel_rfl) (by kernel_rfl) (by kernel_rfl)
 have h38 := @run_callFunc_extern Tryd.prog 229 _ (ReflectliteType.relation "Implements" ReflectliteType.implements_) Tryd.func229 (by kernel_rfl) (by kernel_rfl) (by kernel_rfl) (by kernel_rfl)
 have h10 := @run_callFunc_extern Tryd.prog 98 _ ReflectliteType.typeOf Tryd.func98 (by kernel_rfl) (by kernel_rfl) (by kernel_rfl) (by kernel_rfl)
 have h35 := @run_callFunc_extern Tryd.prog 226 _ (ReflectliteType.relation "AssignableTo" ReflectliteType.assignableTo) Tryd.func226 (by kernel_rfl) (by kernel_rfl) (by kernel_rfl) (by kernel_rfl)
 have h11 := @run_callFunc_extern Tryd.prog 99 _ (ReflectliteValue.method (ReflectliteValue.valueError "reflectlite.Value.Elem" 0) ReflectliteValue.elem) Tryd.func99 (by kernel_rfl) (by kernel_rfl) (by kernel_rfl) (by kernel_rfl)
 have h12 := @run_callFunc_extern Tryd.prog 100 _ ReflectliteValue.set Tryd.func100 (by kernel_rfl) (by kernel_rfl) (by kernel_rfl) (by kernel_rfl)
 have tO := Ab3
 have mA := PX
 have a25 := WX
 have v25 := Aak
 have f6 := AaF
 have f7 := Agj
 have mK := Y4
 have mE := YO
 have mI := Sl
 have k27 := Aij
 have k25 := Ag8
 have e27 := Aiq
 have i25 := WH
 have n8 := AeQ ⟨w.heap.size, 0, none⟩ t ((w.alloc (.cells #[.pointer (some t)] 69)).alloc (.cells #[.pointer (some ⟨9, 69, none⟩), .pointer (some ⟨w.heap.size, 0, none⟩), .int .u64 150] 121)) (by simp)
 have hlt : 0 < w.heap.size := by
  rcases Nat.lt_or_ge 0 w.heap.size with h | h
  ·exact h
  ·simp [World.cell?, Array.getElem?_eq_none h] at hg
 have hg2 : ((w.alloc (.cells #[.pointer (some t)] 69)).alloc (.cells #[.pointer (some ⟨9, 69, none⟩), .pointer (some ⟨w.heap.size, 0, none⟩), .int .u64 150] 121)).cell? ⟨0, 0, none⟩ = some (.iface 172 (.agg #[.pointer (some ⟨9, 26, none⟩)])) := by
  rw [World.cell?_alloc_lt _ _ ⟨0, 0, none⟩ (by simp), World.cell?_alloc_lt _ _ ⟨0, 0, none⟩ hlt]; exact hg
 have htl : t.block < w.heap.size := by
  rcases Nat.lt_or_ge t.block w.heap.size with h | h
  ·exact h
  ·simp [World.cell?, Array.getElem?_eq_none h] at ht0
 have el := AeT ⟨w.heap.size, 0, none⟩ t (((w.alloc (.cells #[.pointer (some t)] 69)).alloc (.cells #[.pointer (some ⟨9, 69, none⟩), .pointer (some ⟨w.heap.size, 0, none⟩), .int .u64 150] 121)).alloc (.cells #[.pointer (some ⟨9, 69, none⟩), .pointer (some ⟨w.heap.size, 0, none⟩), .int .u64 150] 121)) (by rw [World.cell?_alloc_lt _ _ ⟨w.heap.size, 0, none⟩ (by simp; omega)]; simp)
 have st := Akd t ⟨w.heap.size + 1 + 1 + 1, 0, none⟩ e old ((((w.alloc (.cells #[.pointer (some t)] 69)).alloc (.cells #[.pointer (some ⟨9, 69, none⟩), .pointer (some ⟨w.heap.size, 0, none⟩), .int .u64 150] 121)).alloc (.cells #[.pointer (some ⟨9, 69, none⟩), .pointer (some ⟨w.heap.size, 0, none⟩), .int .u64 150] 121)).alloc (.cells #[.int .i64 e] 32))
  (by rw [World.cell?_alloc_at _ _ _ _ (by simp)]; rfl)
  (by rw [World.cell?_alloc_lt _ _ t (by simp; omega), World.cell?_alloc_lt _ _ t (by simp; omega), World.cell?_alloc_lt _ _ t (by simp; omega), World.cell?_alloc_lt _ _ t htl]; exact ht0)
  (by rw [World.frozen?_alloc_old _ _ t (by simp; omega), World.frozen?_alloc_old _ _ t (by simp; omega), World.frozen?_alloc_old _ _ t (by simp; omega), World.frozen?_alloc_old _ _ t (Nat.ne_of_lt htl)]; exact hf0)
 go_enter Tryd.func29, Tryd.ntmps29
 go_wp2
 refine wp_loop_rounds 1 ?_
 rw [rounds_succ]
 go_wp2
 go_ret
 exact ⟨rfl, rfl⟩
end Go.Proofs.YtmlompedpahkjaaDoor


namespace Go.Proofs.YtmlompedpahkjaaDoor
open Go.RowKit
variable [BA] [CX]
set_option linter.unusedSectionVars false
set_option linter.unusedVariables false
set_option linter.unusedSimpArgs false

theorem NT.refl {F : Nat → Prop} {w : World} (h : ∀ b, F b → b < w.heap.size) : NT F w F w := ⟨rfl, rfl, rfl, Nat.le_refl _, fun _ _ => rfl, fun _ h => h, fun _ _ h => h, h⟩
theorem NT.alloc {F F' : Nat → Prop} {w w' : World} (h : NT F w F' w') (o : Obj) : NT F w F' (w'.alloc o) :=
 ⟨h.os, h.tape, h.output, by have := h.size; simp; omega, fun b hb => (CZ w' o (Nat.lt_of_lt_of_le hb h.size)).trans (h.same b hb), h.keepF, h.oldF, fun b hb => by have := h.ltF b hb; simp; omega⟩

/-- An error of the program's. -/
abbrev eno (n : Int) : TV := .ifc 32 (i64 n)

theorem AgP {n : Int} {id ver : Nat} {p : List (Nat × Nat)} {x x' : TV} {H : List Ob} {K : TV → List Ob → Prop} (ho : H[id]? = some (.obj ver x)) (hs2 : QX p x (i64 n) = some x') (hk : K (tb true) (H.set id (.obj ver x'))) :
  Ap Tryd.prog 29 [eno n, .ifc 69 (.op id ver p)] H K := by
 intro β F w vs hs hv
 obtain ⟨u, us, rfl, h1, h2⟩ := Bg.cons.1 hv
 obtain ⟨u2, us2, rfl, h3, h4⟩ := Bg.cons.1 h2
 rw [Bg.nil] at h4; subst h4
 -- the two arguments
 have e1 : u = .iface 32 (.int .i64 n) := by
  rcases h1 with h | h | ⟨xs0, h, rfl⟩
  ·cases h
  ·cases h
  ·rw [Ak] at h
   obtain ⟨v, rfl, vs, h, rfl⟩ := h
   rw [Ak] at h
   obtain ⟨rfl, _⟩ := h
   rfl
 obtain ⟨b, o, hbo, rfl⟩ : ∃ b o, β id ver = some (b, o) ∧ u2 = .iface 69 (.pointer (some ⟨b, o + Dz p, none⟩)) := by
  rcases h3 with h | h | ⟨xs0, h, rfl⟩
  ·cases h
  ·cases h
  ·rw [Ak] at h
   obtain ⟨v, rfl, vs, h, rfl⟩ := h
   rw [Ak] at h
   obtain ⟨_, b, o, hb, rfl⟩ := h
   exact ⟨b, o, hb, rfl⟩
 subst e1
 have hgl := hs.glob.at CX.k
 have hg : w.cell? ⟨0, 0, none⟩ = some (.iface 172 (.agg #[.pointer (some ⟨9, 26, none⟩)])) := hgl 0 _ rfl
 have hrow : ∀ c w, Ak c w (i64 n) [.int .i64 n] := fun c w => by rw [Ak]; exact ⟨rfl, rfl⟩
 obtain ⟨_, _, ht⟩ := hs.store ho hbo hs2 (hrow _ _)
 obtain ⟨t1, t2⟩ := ht 0 (by simp)
 obtain ⟨old, hold⟩ := Option.isSome_iff_exists.1 t1
 refine (AnC n ⟨b, o + Dz p, none⟩ old w hg hold t2).mono ?_
 rintro e w' ⟨rfl, rfl⟩
 have hst := ((((NT.refl (F := F) hs.lt).alloc (.cells #[.pointer (some ⟨b, o + Dz p, none⟩)] 69)).alloc (.cells #[.pointer (some ⟨9, 69, none⟩), .pointer (some ⟨w.heap.size, 0, none⟩), .int .u64 150] 121)).alloc (.cells #[.pointer (some ⟨9, 69, none⟩), .pointer (some ⟨w.heap.size, 0, none⟩), .int .u64 150] 121)).alloc (.cells #[.int .i64 n] 32)
 obtain ⟨k1, k2, _⟩ := (hst.sim hs).store ho hbo hs2 (hrow _ _)
 exact ⟨_, tb true, β, _, F, rfl, hk, k1, hst.later.trans k2, Rep.of_val⟩

/-- api.Tell of an error of the program's, and of none. -/
theorem AoB {n : Int} : D5 Tryd.prog 13 [eno n] (fun x => x = i64 n) := by
 refine Ap.toPureV (Wi (by simp) ?_)
 simp -dsimp (disch := first | assumption | omega) only [↓Ah, Ae, Ai, Ag, eq_self, forall_const, Nat.reduceLT, Nat.reduceEqDiff, Nat.reduceSub, Nat.reduceMul, Nat.reduceMod, Nat.reduceDiv, Nat.reducePow, UInt8.reduceToNat, Int.reduceEq, Int.reduceLT, Int.reduceLE, ↓reduceIte, Nat.reduceAdd, Int.reduceToNat, reduceCtorEq, Nat.reduceLeDiff, ↓TF]
 refine AgP (x := i64 ((0 : Nat) : Int)) (x' := i64 n) rfl (by rw [Abu]; rfl) ?_
 simp -dsimp (disch := first | assumption | omega) only [↓Ah, Ae, Ai, Ag, eq_self, forall_const, Nat.reduceLT, Nat.reduceEqDiff, Nat.reduceSub, Nat.reduceMul, Nat.reduceMod, Nat.reduceDiv, Nat.reducePow, UInt8.reduceToNat, Int.reduceEq, Int.reduceLT, Int.reduceLE, ↓reduceIte, Nat.reduceAdd, Int.reduceToNat, reduceCtorEq, Nat.reduceLeDiff, ↓TF]
theorem Aiw : D5 Tryd.prog 13 [.val .nilIface] (fun x => x = i64 ((0 : Nat) : Int)) := by
 refine Ap.toPureV (Wi (by simp) ?_)
 simp -dsimp (disch := first | assumption | omega) only [↓Ah, Ae, Ai, Ag, eq_self, forall_const, Nat.reduceLT, Nat.reduceEqDiff, Nat.reduceSub, Nat.reduceMul, Nat.reduceMod, Nat.reduceDiv, Nat.reducePow, UInt8.reduceToNat, Int.reduceEq, Int.reduceLT, Int.reduceLE, ↓reduceIte, Nat.reduceAdd, Int.reduceToNat, reduceCtorEq, Nat.reduceLeDiff, ↓TF]
end Go.Proofs.YtmlompedpahkjaaDoor


namespace Go.Proofs.YtmlompedpahkjaaDoor
open Go.RowKit Kit
variable [BA] [CX]
set_option linter.unusedSectionVars false
set_option linter.unusedVariables false
set_option linter.unusedSimpArgs false

theorem Ae9 (l : List Pl) (hl : l.length ≤ 1000) : D5 Tryd.prog 16 [.sl 22 (l.map plT)] (fun r => r = .sl 22 (l.map plT)) := by
 refine Ap.toPureV (WS (by simp) ?_)
 simp -dsimp (disch := first | assumption | omega | (simp only [Ac]; done) | (simp only [Ac]; omega)) only [↓Ah, Ae, Ai, Ag, eq_self, forall_const, Nat.reduceLT, Nat.reduceEqDiff, Nat.reduceSub, Nat.reduceMul, Nat.reduceMod, Nat.reduceDiv, Nat.reducePow, UInt8.reduceToNat, Int.reduceEq, Int.reduceLT, Int.reduceLE, ↓reduceIte, Nat.reduceAdd, Int.reduceToNat, reduceCtorEq, Nat.reduceLeDiff, ↓MB]
 refine Dq (fun m e H => ∃ i v k cp : Nat, m = l.length - i ∧ i ≤ l.length ∧ e = [(0, .sl 22 (l.map plT)), (3, .os 22 k v [] 0 i cp), (4, i64 (i : Int))] ∧ H[k]? = some (.obj v (.arr i 22 ((l.take i).map plT)))) l.length ?_ ?_
 ·exact ⟨0, 0, 0, 0, by simp, by simp, by simp [forget, get], by simp⟩
 ·rintro m e H ⟨i, v, k, cp, rfl, hi, rfl, hk⟩
  have hkl := AdU hk
  by_cases h : i < l.length
  ·have hg : l[i]? = some l[i] := List.getElem?_eq_getElem h
   have htk : ((l.take i).map plT).take i = (l.take i).map plT := List.take_of_length_le (by simp; omega)
   have ht1 : ∀ y : TV, List.take 1 [y] = [y] := fun y => rfl
   have hsucc := List.take_succ_eq_append_getElem h
   generalize l[i] = n at *
   simp -dsimp (disch := first | assumption | omega | (simp only [Ac]; done) | (simp only [Ac]; omega)) only [↓Ah, Ae, Ai, Ag, eq_self, forall_const, Nat.reduceLT, Nat.reduceEqDiff, Nat.reduceSub, Nat.reduceMul, Nat.reduceMod, Nat.reduceDiv, Nat.reducePow, UInt8.reduceToNat, Int.reduceEq, Int.reduceLT, Int.reduceLE, ↓reduceIte, Nat.reduceAdd, Int.reduceToNat, reduceCtorEq, Nat.reduceLeDiff, ↓MB, hg, hk, BB, U4, htk, ht1]
   rw [← BB]
   refine A8 (l.length - (i + 1)) (by omega) (by simp) ⟨i + 1, v + 1, k, i + 1, rfl, by omega, by simp [forget, get], ?_⟩
   rw [List.getElem?_append_left (by simpa using hkl), List.getElem?_set_self hkl, hsucc]
   simp
  ·have hi2 : i = l.length := by omega
   subst hi2
   rw [List.take_length] at hk
   have htk : (l.map plT).take l.length = l.map plT := List.take_of_length_le (by simp)
   simp -dsimp (disch := first | assumption | omega | (simp only [Ac]; done) | (simp only [Ac]; omega)) only [↓Ah, Ae, Ai, Ag, eq_self, forall_const, Nat.reduceLT, Nat.reduceEqDiff, Nat.reduceSub, Nat.reduceMul, Nat.reduceMod, Nat.reduceDiv, Nat.reducePow, UInt8.reduceToNat, Int.reduceEq, Int.reduceLT, Int.reduceLE, ↓reduceIte, Nat.reduceAdd, Int.reduceToNat, reduceCtorEq, Nat.reduceLeDiff, ↓MB, hk, htk]
theorem AcP (l : List Pl) (hl : l.length ≤ 10000) : D5 Tryd.prog 43 [.sl 22 (l.map plT), .sl 22 (l.map plT)] (fun r => r = tb true) := by
 refine Ap.toPureV (Sz (by simp) ?_)
 simp -dsimp (disch := first | assumption | omega | (simp only [Ac]; done) | (simp only [Ac]; omega)) only [↓Ah, Ae, Ai, Ag, eq_self, forall_const, Nat.reduceLT, Nat.reduceEqDiff, Nat.reduceSub, Nat.reduceMul, Nat.reduceMod, Nat.reduceDiv, Nat.reducePow, UInt8.reduceToNat, Int.reduceEq, Int.reduceLT, Int.reduceLE, ↓reduceIte, Nat.reduceAdd, Int.reduceToNat, reduceCtorEq, Nat.reduceLeDiff, ↓F6]
 refine Dq (fun m e H => ∃ i : Nat, m = l.length - i ∧ i ≤ l.length ∧ e = [(0, .sl 22 (l.map plT)), (1, .sl 22 (l.map plT)), (5, i64 (i : Int))] ∧ H = []) l.length ?_ ?_
 ·exact ⟨0, by simp, by simp, by simp [forget, get], rfl⟩
 ·rintro m e H ⟨i, rfl, hi, rfl, rfl⟩
  by_cases h : i < l.length
  ·have hg : l[i]? = some l[i] := List.getElem?_eq_getElem h
   generalize l[i] = n at *
   simp -dsimp (disch := first | assumption | omega | (simp only [Ac]; done) | (simp only [Ac]; omega)) only [↓Ah, Ae, Ai, Ag, eq_self, forall_const, Nat.reduceLT, Nat.reduceEqDiff, Nat.reduceSub, Nat.reduceMul, Nat.reduceMod, Nat.reduceDiv, Nat.reducePow, UInt8.reduceToNat, Int.reduceEq, Int.reduceLT, Int.reduceLE, ↓reduceIte, Nat.reduceAdd, Int.reduceToNat, reduceCtorEq, Nat.reduceLeDiff, ↓F6, hg, BB, beq_self_eq_true]
   exact A8 (l.length - (i + 1)) (by omega) (by simp) ⟨i + 1, rfl, by omega, by simp [forget, get], rfl⟩
  ·have hi2 : i = l.length := by omega
   subst hi2
   simp -dsimp (disch := first | assumption | omega | (simp only [Ac]; done) | (simp only [Ac]; omega)) only [↓Ah, Ae, Ai, Ag, eq_self, forall_const, Nat.reduceLT, Nat.reduceEqDiff, Nat.reduceSub, Nat.reduceMul, Nat.reduceMod, Nat.reduceDiv, Nat.reducePow, UInt8.reduceToNat, Int.reduceEq, Int.reduceLT, Int.reduceLE, ↓reduceIte, Nat.reduceAdd, Int.reduceToNat, reduceCtorEq, Nat.reduceLeDiff, ↓F6]
set_option maxRecDepth 100000 in
theorem VA (b id : List UInt8) (hb : b.length ≤ 100000) (hi : id.length = 20) : D5 Tryd.prog 18 [slB b, .arr 20 1 (id.map by8)] (fun r => r = tb true) := by
 refine Ap.toPureV (U2 (by simp) ?_)
 have htk2 : ((b ++ [71, 72]).map by8).take b.length = b.map by8 := by rw [List.map_append, List.take_append_of_le_length (by simp), List.take_of_length_le (by simp)]
 simp -dsimp (disch := first | assumption | omega | (simp only [Ac]; done) | (simp only [Ac]; omega)) only [↓Ah, Ae, Ai, Ag, eq_self, forall_const, Nat.reduceLT, Nat.reduceEqDiff, Nat.reduceSub, Nat.reduceMul, Nat.reduceMod, Nat.reduceDiv, Nat.reducePow, UInt8.reduceToNat, Int.reduceEq, Int.reduceLT, Int.reduceLE, ↓reduceIte, Nat.reduceAdd, Int.reduceToNat, reduceCtorEq, Nat.reduceLeDiff, ↓Ue, ↓NZ]
 refine OY (AnR b (by omega) ?_)
 simp -dsimp (disch := first | assumption | omega | (simp only [Ac]; done) | (simp only [Ac]; omega)) only [↓Ah, Ae, Ai, Ag, eq_self, forall_const, Nat.reduceLT, Nat.reduceEqDiff, Nat.reduceSub, Nat.reduceMul, Nat.reduceMod, Nat.reduceDiv, Nat.reducePow, UInt8.reduceToNat, Int.reduceEq, Int.reduceLT, Int.reduceLE, ↓reduceIte, Nat.reduceAdd, Int.reduceToNat, reduceCtorEq, Nat.reduceLeDiff, ↓Oa]
 refine Ap.callsP ((Aox b hb).lends (args' := [slB b]) (by simp -dsimp (disch := first | assumption | omega | (simp only [Ac]; done) | (simp only [Ac]; omega)) only [↓Ah, Ae, Ai, Ag, eq_self, forall_const, Nat.reduceLT, Nat.reduceEqDiff, Nat.reduceSub, Nat.reduceMul, Nat.reduceMod, Nat.reduceDiv, Nat.reducePow, UInt8.reduceToNat, Int.reduceEq, Int.reduceLT, Int.reduceLE, ↓reduceIte, Nat.reduceAdd, Int.reduceToNat, reduceCtorEq, Nat.reduceLeDiff, htk2]) fun r hr => ?_)
 by_cases hg : Nc sha b
 ·rw [hr.1 hg]
  obtain ⟨hsp, hfit⟩ := hg.sorted EH
  have h20 := X7 hg.len
  have hll : (Ha b).length ≤ 10000 := by rw [PN]; omega
  simp -dsimp (disch := first | assumption | omega | (simp only [Ac]; done) | (simp only [Ac]; omega)) only [↓Ah, Ae, Ai, Ag, eq_self, forall_const, Nat.reduceLT, Nat.reduceEqDiff, Nat.reduceSub, Nat.reduceMul, Nat.reduceMod, Nat.reduceDiv, Nat.reducePow, UInt8.reduceToNat, Int.reduceEq, Int.reduceLT, Int.reduceLE, ↓reduceIte, Nat.reduceAdd, Int.reduceToNat, reduceCtorEq, Nat.reduceLeDiff, ↓Gx]
  refine Ap.callsP ((Aot b id hb hi).lends (args' := [slB b, .arr 20 1 (id.map by8)]) (by simp -dsimp (disch := first | assumption | omega | (simp only [Ac]; done) | (simp only [Ac]; omega)) only [↓Ah, Ae, Ai, Ag, eq_self, forall_const, Nat.reduceLT, Nat.reduceEqDiff, Nat.reduceSub, Nat.reduceMul, Nat.reduceMod, Nat.reduceDiv, Nat.reducePow, UInt8.reduceToNat, Int.reduceEq, Int.reduceLT, Int.reduceLE, ↓reduceIte, Nat.reduceAdd, Int.reduceToNat, reduceCtorEq, Nat.reduceLeDiff, htk2]) fun r hf => ?_)
  have hne : ∀ x y : List UInt8, x ≠ y → (x == y) = false := fun x y h => by simp [h]
  by_cases hx : ∃ p ∈ Ha b, p.id = id
  ·obtain ⟨p, hp, hpi⟩ := hx
   rw [(hf.1 hg).1 p hp hpi]
   simp -dsimp (disch := first | assumption | omega | (simp only [Ac]; done) | (simp only [Ac]; omega)) only [↓Ah, Ae, Ai, Ag, eq_self, forall_const, Nat.reduceLT, Nat.reduceEqDiff, Nat.reduceSub, Nat.reduceMul, Nat.reduceMod, Nat.reduceDiv, Nat.reducePow, UInt8.reduceToNat, Int.reduceEq, Int.reduceLT, Int.reduceLE, ↓reduceIte, Nat.reduceAdd, Int.reduceToNat, reduceCtorEq, Nat.reduceLeDiff, ↓DF]
   refine OY (Yn b (by omega) rfl ?_)
   simp -dsimp (disch := first | assumption | omega | (simp only [Ac]; done) | (simp only [Ac]; omega)) only [↓Ah, Ae, Ai, Ag, eq_self, forall_const, Nat.reduceLT, Nat.reduceEqDiff, Nat.reduceSub, Nat.reduceMul, Nat.reduceMod, Nat.reduceDiv, Nat.reducePow, UInt8.reduceToNat, Int.reduceEq, Int.reduceLT, Int.reduceLE, ↓reduceIte, Nat.reduceAdd, Int.reduceToNat, reduceCtorEq, Nat.reduceLeDiff, ↓DK]
   refine (Ae2 b hb).pure.calls rfl fun r hr => ?_
   rw [hr.1 hg]
   simp -dsimp (disch := first | assumption | omega | (simp only [Ac]; done) | (simp only [Ac]; omega)) only [↓Ah, Ae, Ai, Ag, eq_self, forall_const, Nat.reduceLT, Nat.reduceEqDiff, Nat.reduceSub, Nat.reduceMul, Nat.reduceMod, Nat.reduceDiv, Nat.reducePow, UInt8.reduceToNat, Int.reduceEq, Int.reduceLT, Int.reduceLE, ↓reduceIte, Nat.reduceAdd, Int.reduceToNat, reduceCtorEq, Nat.reduceLeDiff, ↓DL, ↓DW, ↓Gt]
   refine (AcP _ hll).calls rfl fun r hr => ?_
   subst hr
   simp -dsimp (disch := first | assumption | omega | (simp only [Ac]; done) | (simp only [Ac]; omega)) only [↓Ah, Ae, Ai, Ag, eq_self, forall_const, Nat.reduceLT, Nat.reduceEqDiff, Nat.reduceSub, Nat.reduceMul, Nat.reduceMod, Nat.reduceDiv, Nat.reducePow, UInt8.reduceToNat, Int.reduceEq, Int.reduceLT, Int.reduceLE, ↓reduceIte, Nat.reduceAdd, Int.reduceToNat, reduceCtorEq, Nat.reduceLeDiff, ↓Gi, beq_self_eq_true]
   refine Aiw.calls rfl fun r hr => ?_
   subst hr
   simp -dsimp (disch := first | assumption | omega | (simp only [Ac]; done) | (simp only [Ac]; omega)) only [↓Ah, Ae, Ai, Ag, eq_self, forall_const, Nat.reduceLT, Nat.reduceEqDiff, Nat.reduceSub, Nat.reduceMul, Nat.reduceMod, Nat.reduceDiv, Nat.reducePow, UInt8.reduceToNat, Int.reduceEq, Int.reduceLT, Int.reduceLE, ↓reduceIte, Nat.reduceAdd, Int.reduceToNat, reduceCtorEq, Nat.reduceLeDiff, ↓Hz, ↓H5]
   generalize Ha b = l at *
   obtain ⟨H1, hH1⟩ : ∃ H1 : List Ob, H1 = [] := ⟨_, rfl⟩
   refine Dq (fun m e H => ∃ i : Nat, m = l.length - i ∧ i ≤ l.length ∧ (∀ q ∈ l.take i, q.id ≠ id) ∧ H[0]? = some (.obj 0 (.arr 20 1 (id.map by8))) ∧ 4 ≤ H.length ∧ e = [(3, .op 0 0 []), (9, i64 p.off), (10, .val .nilIface), (12, .sl 22 (l.map plT)), (16, i64 (i : Int))]) l.length ?_ ?_
   ·exact ⟨0, by simp, by omega, by simp, rfl, by simp, by simp [forget, get]⟩
   ·rintro m e H ⟨i, rfl, hil, hno, hH0, hH4, rfl⟩
    by_cases h : i < l.length
    ·have hgi : l[i]? = some l[i] := List.getElem?_eq_getElem h
     have hsucc := List.take_succ_eq_append_getElem h
     generalize l[i] = q at *
     by_cases hq : q.id = id
     ·have hqp : q = p := by
       obtain ⟨j, hj⟩ := List.getElem?_of_mem hp
       have := hsp.one hgi hj (hq.trans hpi.symm)
       subst this
       rw [hgi] at hj; exact Option.some.inj hj
      subst hqp
      simp -dsimp (disch := first | assumption | omega | (simp only [Ac]; done) | (simp only [Ac]; omega)) only [↓Ah, Ae, Ai, Ag, eq_self, forall_const, Nat.reduceLT, Nat.reduceEqDiff, Nat.reduceSub, Nat.reduceMul, Nat.reduceMod, Nat.reduceDiv, Nat.reducePow, UInt8.reduceToNat, Int.reduceEq, Int.reduceLT, Int.reduceLE, ↓reduceIte, Nat.reduceAdd, Int.reduceToNat, reduceCtorEq, Nat.reduceLeDiff, ↓Dj, ↓DX, ↓DY, ↓PW, hgi, BB, hH0, hq, beq_self_eq_true]
      refine Aiw.calls rfl fun r hr => ?_
      subst hr
      simp -dsimp (disch := first | assumption | omega | (simp only [Ac]; done) | (simp only [Ac]; omega)) only [↓Ah, Ae, Ai, Ag, eq_self, forall_const, Nat.reduceLT, Nat.reduceEqDiff, Nat.reduceSub, Nat.reduceMul, Nat.reduceMod, Nat.reduceDiv, Nat.reducePow, UInt8.reduceToNat, Int.reduceEq, Int.reduceLT, Int.reduceLE, ↓reduceIte, Nat.reduceAdd, Int.reduceToNat, reduceCtorEq, Nat.reduceLeDiff, ↓FY, hgi, BB]
     ·simp -dsimp (disch := first | assumption | omega | (simp only [Ac]; done) | (simp only [Ac]; omega)) only [↓Ah, Ae, Ai, Ag, eq_self, forall_const, Nat.reduceLT, Nat.reduceEqDiff, Nat.reduceSub, Nat.reduceMul, Nat.reduceMod, Nat.reduceDiv, Nat.reducePow, UInt8.reduceToNat, Int.reduceEq, Int.reduceLT, Int.reduceLE, ↓reduceIte, Nat.reduceAdd, Int.reduceToNat, reduceCtorEq, Nat.reduceLeDiff, ↓Dj, ↓DX, ↓DY, hgi, BB, hH0, hne _ _ hq]
      refine A8 (l.length - (i + 1)) (by omega) (by simpa using hH4) ⟨i + 1, rfl, by omega, fun z hz => ?_, hH0, hH4, by simp [forget, get]⟩
      rw [hsucc] at hz
      rcases List.mem_append.1 hz with hz | hz
      ·exact hno z hz
      ·rw [List.mem_singleton.1 hz]; exact hq
    ·have hi2 : i = l.length := by omega
     subst hi2
     rw [List.take_length] at hno
     exact absurd hpi (hno p hp)
  ·have hno : ∀ p, p ∈ Ha b → p.id ≠ id := fun p hp e => hx ⟨p, hp, e⟩
   rw [(hf.1 hg).2 hno]
   simp -dsimp (disch := first | assumption | omega | (simp only [Ac]; done) | (simp only [Ac]; omega)) only [↓Ah, Ae, Ai, Ag, eq_self, forall_const, Nat.reduceLT, Nat.reduceEqDiff, Nat.reduceSub, Nat.reduceMul, Nat.reduceMod, Nat.reduceDiv, Nat.reducePow, UInt8.reduceToNat, Int.reduceEq, Int.reduceLT, Int.reduceLE, ↓reduceIte, Nat.reduceAdd, Int.reduceToNat, reduceCtorEq, Nat.reduceLeDiff, ↓DF]
   refine OY (Yn b (by omega) rfl ?_)
   simp -dsimp (disch := first | assumption | omega | (simp only [Ac]; done) | (simp only [Ac]; omega)) only [↓Ah, Ae, Ai, Ag, eq_self, forall_const, Nat.reduceLT, Nat.reduceEqDiff, Nat.reduceSub, Nat.reduceMul, Nat.reduceMod, Nat.reduceDiv, Nat.reducePow, UInt8.reduceToNat, Int.reduceEq, Int.reduceLT, Int.reduceLE, ↓reduceIte, Nat.reduceAdd, Int.reduceToNat, reduceCtorEq, Nat.reduceLeDiff, ↓DK]
   refine (Ae2 b hb).pure.calls rfl fun r hr => ?_
   rw [hr.1 hg]
   simp -dsimp (disch := first | assumption | omega | (simp only [Ac]; done) | (simp only [Ac]; omega)) only [↓Ah, Ae, Ai, Ag, eq_self, forall_const, Nat.reduceLT, Nat.reduceEqDiff, Nat.reduceSub, Nat.reduceMul, Nat.reduceMod, Nat.reduceDiv, Nat.reducePow, UInt8.reduceToNat, Int.reduceEq, Int.reduceLT, Int.reduceLE, ↓reduceIte, Nat.reduceAdd, Int.reduceToNat, reduceCtorEq, Nat.reduceLeDiff, ↓DL, ↓DW, ↓Gt]
   refine (AcP _ hll).calls rfl fun r hr => ?_
   subst hr
   simp -dsimp (disch := first | assumption | omega | (simp only [Ac]; done) | (simp only [Ac]; omega)) only [↓Ah, Ae, Ai, Ag, eq_self, forall_const, Nat.reduceLT, Nat.reduceEqDiff, Nat.reduceSub, Nat.reduceMul, Nat.reduceMod, Nat.reduceDiv, Nat.reducePow, UInt8.reduceToNat, Int.reduceEq, Int.reduceLT, Int.reduceLE, ↓reduceIte, Nat.reduceAdd, Int.reduceToNat, reduceCtorEq, Nat.reduceLeDiff, ↓Gi, beq_self_eq_true]
   refine Aiw.calls rfl fun r hr => ?_
   subst hr
   simp -dsimp (disch := first | assumption | omega | (simp only [Ac]; done) | (simp only [Ac]; omega)) only [↓Ah, Ae, Ai, Ag, eq_self, forall_const, Nat.reduceLT, Nat.reduceEqDiff, Nat.reduceSub, Nat.reduceMul, Nat.reduceMod, Nat.reduceDiv, Nat.reducePow, UInt8.reduceToNat, Int.reduceEq, Int.reduceLT, Int.reduceLE, ↓reduceIte, Nat.reduceAdd, Int.reduceToNat, reduceCtorEq, Nat.reduceLeDiff, ↓Hz, ↓H5]
   generalize Ha b = l at *
   refine Dq (fun m e H => ∃ i : Nat, m = l.length - i ∧ i ≤ l.length ∧ H[0]? = some (.obj 0 (.arr 20 1 (id.map by8))) ∧ 4 ≤ H.length ∧ e = [(3, .op 0 0 []), (9, i64 ((0 : Nat) : Int)), (10, eno ((50 : Nat) : Int)), (12, .sl 22 (l.map plT)), (16, i64 (i : Int))]) l.length ?_ ?_
   ·exact ⟨0, by simp, by omega, rfl, by simp, by simp [forget, get]⟩
   ·rintro m e H ⟨i, rfl, hil, hH0, hH4, rfl⟩
    by_cases h : i < l.length
    ·have hgi : l[i]? = some l[i] := List.getElem?_eq_getElem h
     have hq := hno l[i] (List.getElem_mem h)
     generalize l[i] = q at *
     simp -dsimp (disch := first | assumption | omega | (simp only [Ac]; done) | (simp only [Ac]; omega)) only [↓Ah, Ae, Ai, Ag, eq_self, forall_const, Nat.reduceLT, Nat.reduceEqDiff, Nat.reduceSub, Nat.reduceMul, Nat.reduceMod, Nat.reduceDiv, Nat.reducePow, UInt8.reduceToNat, Int.reduceEq, Int.reduceLT, Int.reduceLE, ↓reduceIte, Nat.reduceAdd, Int.reduceToNat, reduceCtorEq, Nat.reduceLeDiff, ↓Dj, ↓DX, ↓DY, hgi, BB, hH0, hne _ _ hq]
     exact A8 (l.length - (i + 1)) (by omega) (by simpa using hH4) ⟨i + 1, rfl, by omega, hH0, hH4, by simp [forget, get]⟩
    ·have hi2 : i = l.length := by omega
     subst hi2
     simp -dsimp (disch := first | assumption | omega | (simp only [Ac]; done) | (simp only [Ac]; omega)) only [↓Ah, Ae, Ai, Ag, eq_self, forall_const, Nat.reduceLT, Nat.reduceEqDiff, Nat.reduceSub, Nat.reduceMul, Nat.reduceMod, Nat.reduceDiv, Nat.reducePow, UInt8.reduceToNat, Int.reduceEq, Int.reduceLT, Int.reduceLE, ↓reduceIte, Nat.reduceAdd, Int.reduceToNat, reduceCtorEq, Nat.reduceLeDiff, ↓Dj, ↓P5]
     refine AoB.calls rfl fun r hr => ?_
     subst hr
     simp -dsimp (disch := first | assumption | omega | (simp only [Ac]; done) | (simp only [Ac]; omega)) only [↓Ah, Ae, Ai, Ag, eq_self, forall_const, Nat.reduceLT, Nat.reduceEqDiff, Nat.reduceSub, Nat.reduceMul, Nat.reduceMod, Nat.reduceDiv, Nat.reducePow, UInt8.reduceToNat, Int.reduceEq, Int.reduceLT, Int.reduceLE, ↓reduceIte, Nat.reduceAdd, Int.reduceToNat, reduceCtorEq, Nat.reduceLeDiff, ↓FY]
 ·rw [hr.2 hg]
  have hrr := Ae2 b hb
  have hz : z20.map by8 = List.replicate 20 (.val (.int .u8 ((0 : Nat) : Int))) := Adi
  generalize z20 = zz at *
  simp only [List.replicate] at hz
  simp -dsimp (disch := first | assumption | omega | (simp only [Ac]; done) | (simp only [Ac]; omega)) only [↓Ah, Ae, Ai, Ag, eq_self, forall_const, Nat.reduceLT, Nat.reduceEqDiff, Nat.reduceSub, Nat.reduceMul, Nat.reduceMod, Nat.reduceDiv, Nat.reducePow, UInt8.reduceToNat, Int.reduceEq, Int.reduceLT, Int.reduceLE, ↓reduceIte, Nat.reduceAdd, Int.reduceToNat, reduceCtorEq, Nat.reduceLeDiff, ↓Gx]
  refine Ap.callsP ((Aot b id hb hi).lends (args' := [slB b, .arr 20 1 (id.map by8)]) (by simp -dsimp (disch := first | assumption | omega | (simp only [Ac]; done) | (simp only [Ac]; omega)) only [↓Ah, Ae, Ai, Ag, eq_self, forall_const, Nat.reduceLT, Nat.reduceEqDiff, Nat.reduceSub, Nat.reduceMul, Nat.reduceMod, Nat.reduceDiv, Nat.reducePow, UInt8.reduceToNat, Int.reduceEq, Int.reduceLT, Int.reduceLE, ↓reduceIte, Nat.reduceAdd, Int.reduceToNat, reduceCtorEq, Nat.reduceLeDiff, htk2]) fun r hf => ?_)
  rw [hf.2 hg]
  simp -dsimp (disch := first | assumption | omega | (simp only [Ac]; done) | (simp only [Ac]; omega)) only [↓Ah, Ae, Ai, Ag, eq_self, forall_const, Nat.reduceLT, Nat.reduceEqDiff, Nat.reduceSub, Nat.reduceMul, Nat.reduceMod, Nat.reduceDiv, Nat.reducePow, UInt8.reduceToNat, Int.reduceEq, Int.reduceLT, Int.reduceLE, ↓reduceIte, Nat.reduceAdd, Int.reduceToNat, reduceCtorEq, Nat.reduceLeDiff, ↓DF]
  refine OY (Yn b (by omega) rfl ?_)
  simp -dsimp (disch := first | assumption | omega | (simp only [Ac]; done) | (simp only [Ac]; omega)) only [↓Ah, Ae, Ai, Ag, eq_self, forall_const, Nat.reduceLT, Nat.reduceEqDiff, Nat.reduceSub, Nat.reduceMul, Nat.reduceMod, Nat.reduceDiv, Nat.reducePow, UInt8.reduceToNat, Int.reduceEq, Int.reduceLT, Int.reduceLE, ↓reduceIte, Nat.reduceAdd, Int.reduceToNat, reduceCtorEq, Nat.reduceLeDiff, ↓DK]
  refine hrr.pure.calls rfl fun r hr => ?_
  rw [hr.2 hg]
  simp -dsimp (disch := first | assumption | omega | (simp only [Ac]; done) | (simp only [Ac]; omega)) only [↓Ah, Ae, Ai, Ag, eq_self, forall_const, Nat.reduceLT, Nat.reduceEqDiff, Nat.reduceSub, Nat.reduceMul, Nat.reduceMod, Nat.reduceDiv, Nat.reducePow, UInt8.reduceToNat, Int.reduceEq, Int.reduceLT, Int.reduceLE, ↓reduceIte, Nat.reduceAdd, Int.reduceToNat, reduceCtorEq, Nat.reduceLeDiff, ↓DL, ↓DW, ↓Qo]
  rw [← hz]
  simp -dsimp (disch := first | assumption | omega | (simp only [Ac]; done) | (simp only [Ac]; omega)) only [↓Ah, Ae, Ai, Ag, eq_self, forall_const, Nat.reduceLT, Nat.reduceEqDiff, Nat.reduceSub, Nat.reduceMul, Nat.reduceMod, Nat.reduceDiv, Nat.reducePow, UInt8.reduceToNat, Int.reduceEq, Int.reduceLT, Int.reduceLE, ↓reduceIte, Nat.reduceAdd, Int.reduceToNat, reduceCtorEq, Nat.reduceLeDiff, beq_self_eq_true]
  refine AoB.calls rfl fun r hr => ?_
  subst hr
  simp -dsimp (disch := first | assumption | omega | (simp only [Ac]; done) | (simp only [Ac]; omega)) only [↓Ah, Ae, Ai, Ag, eq_self, forall_const, Nat.reduceLT, Nat.reduceEqDiff, Nat.reduceSub, Nat.reduceMul, Nat.reduceMod, Nat.reduceDiv, Nat.reducePow, UInt8.reduceToNat, Int.reduceEq, Int.reduceLT, Int.reduceLE, ↓reduceIte, Nat.reduceAdd, Int.reduceToNat, reduceCtorEq, Nat.reduceLeDiff]
  refine AoB.calls rfl fun r hr => ?_
  subst hr
  simp -dsimp (disch := first | assumption | omega | (simp only [Ac]; done) | (simp only [Ac]; omega)) only [↓Ah, Ae, Ai, Ag, eq_self, forall_const, Nat.reduceLT, Nat.reduceEqDiff, Nat.reduceSub, Nat.reduceMul, Nat.reduceMod, Nat.reduceDiv, Nat.reducePow, UInt8.reduceToNat, Int.reduceEq, Int.reduceLT, Int.reduceLE, ↓reduceIte, Nat.reduceAdd, Int.reduceToNat, reduceCtorEq, Nat.reduceLeDiff, ↓FY]
end Go.Proofs.YtmlompedpahkjaaDoor


namespace Go.Proofs.YtmlompedpahkjaaDoor
open Go.RowKit
variable [BA]
set_option linter.unusedSectionVars false
set_option linter.unusedVariables false

variable {P : Program}
/-- A CALL THAT LEAVES NOTHING BEHIND, AND YIELDS NEW MEMORY ALONE, or ends in a panic. -/
def Aah (P : Program) (f : FuncId) (args : List TV) (R : TV → Prop) (RP : Value → Prop) : Prop :=
 ∀ (β : Nat → Nat → Option (Nat × Nat)) (F : Nat → Prop) (w : World) (vs : List Value), ((∀ b, F b → b < w.heap.size) ∧ JW F w) → Bg ⟨β, [], F⟩ w args vs →
  Calls P f vs.toArray w fun e w' => ∃ F', NT F w F' w' ∧ ((∃ v x, e = .returned v ∧ R x ∧ Rep ⟨β, [], fun b => F' b ∧ w.heap.size ≤ b⟩ w' x v) ∨ ∃ u, e = .panicked [{ v := u, recovered := false }] ∧ RP u)
theorem Aah.mono {f : FuncId} {args : List TV} {R R' : TV → Prop} {RP RP' : Value → Prop} (h : Aah P f args R RP) (hr : ∀ x, R x → R' x) (hp : ∀ u, RP u → RP' u) : Aah P f args R' RP' :=
 fun β F w vs hF hv => (h β F w vs hF hv).mono fun _ _ ⟨F', h1, h2⟩ => ⟨F', h1, h2.imp (fun ⟨v, x, k1, k2, k3⟩ => ⟨v, x, k1, hr _ k2, k3⟩) fun ⟨u, k1, k2⟩ => ⟨u, k1, hp _ k2⟩⟩

def AeS (x x' : TV) : Prop := ∀ (c : Ctx) (w : World) (v : Value), Ab4 c w x v → Ab4 c w x' v
inductive Vl : List TV → List TV → Prop
 | nil : Vl [] []
 | cons {x x' : TV} {xs xs' : List TV} : AeS x x' → Vl xs xs' → Vl (x :: xs) (x' :: xs')
theorem AeS.refl {x : TV} : AeS x x := fun _ _ _ h => h
theorem Vl.refl : ∀ {xs : List TV}, Vl xs xs
 | [] => .nil
 | _ :: _ => .cons AeS.refl Vl.refl
theorem Vl.rep {c : Ctx} {w : World} {xs xs' : List TV} (h : Vl xs xs') : ∀ {vs : List Value}, Bg c w xs vs → Bg c w xs' vs := by
 induction h with
 | nil => exact fun h => h
 | cons h1 h2 ih =>
  intro vs hv
  rw [Bg.cons] at hv ⊢
  obtain ⟨u, us, rfl, k1, k2⟩ := hv
  exact ⟨u, us, rfl, h1 _ _ _ k1, ih k2⟩
/-- No slice is an empty one. -/
theorem AbE {k : Nat} : AeS (.val (.slice none 0 0)) (.sl k []) := fun c w v h => by
 have hv : v = .slice none 0 0 := by
  have h' : Rep c w (.val (.slice none 0 0)) v := .inl h
  rw [Rep.val] at h'; exact h'
 subst hv
 refine .inr (.inr ⟨[.slice none 0 0], ?_, rfl⟩)
 rw [Ak]
 exact ⟨by simp, .inl ⟨rfl, none, 0, rfl, by omega⟩⟩
theorem D5.argL {f : FuncId} {args args' : List TV} {R : TV → Prop} (h : D5 P f args' R) (hc : Vl args args') : D5 P f args R :=
 fun β F w vs hF hv => h β F w vs hF (hc.rep hv)
theorem Vl.tup {xs xs' : List TV} (h : Vl xs xs') : ∀ (c : Ctx) (w : World) (v : Value), Rep c w (.tup xs) v → Rep c w (.tup xs') v := by
 rintro c w v ((h1 | h1 | ⟨us, h1, _⟩) | ⟨ys, vs, h1, h2, h3⟩)
 ·cases h1
 ·cases h1
 ·rw [Ak] at h1; exact h1.elim
 ·cases h1
  exact .inr ⟨xs', vs, rfl, h2, h.rep h3⟩
end Go.Proofs.YtmlompedpahkjaaDoor


namespace Go.Proofs.YtmlompedpahkjaaDoor
open Go.RowKit Kit
variable [BA] [CX]
set_option linter.unusedSectionVars false
set_option linter.unusedVariables false
set_option linter.unusedSimpArgs false

theorem AaX {l : List Pl} (hl : ∀ p ∈ l, p.id.length = 20 ∧ p.crc < 4294967296) {sum b : List UInt8} (h20 : sum.length = 20) (h : wrF sha l sum = some b) : b.length = 1072 + 28 * l.length := by
 obtain ⟨h1, h2, _⟩ := Nc.written EH hl h20 h
 have := h2.length_eq
 rw [PN] at this
 have h3 := h1.len; have h4 := h1.mod
 omega
theorem Acl (l : List Pl) (sum b id : List UInt8) (hl : ∀ p ∈ l, p.id.length = 20 ∧ p.crc < 4294967296) (hs : sum.length = 20) (hi : id.length = 20) : D5 Tryd.prog 4 [.sl 22 (l.map plT), .arr 20 1 (sum.map by8), slB b, .arr 20 1 (id.map by8)] (fun r => r = tb true) := by
 refine Ap.toPureV (Rn (by simp) ?_)
 simp -dsimp (disch := first | assumption | omega | (simp only [Ac]; done) | (simp only [Ac]; omega)) only [↓Ah, Ae, Ai, Ag, eq_self, forall_const, Nat.reduceLT, Nat.reduceEqDiff, Nat.reduceSub, Nat.reduceMul, Nat.reduceMod, Nat.reduceDiv, Nat.reducePow, UInt8.reduceToNat, Int.reduceEq, Int.reduceLT, Int.reduceLE, ↓reduceIte, Nat.reduceAdd, Int.reduceToNat, reduceCtorEq, Nat.reduceLeDiff, ↓Qm, ↓LW, ↓BH]
 by_cases h1 : l.length ≤ 200
 case neg => simp -dsimp (disch := first | assumption | omega | (simp only [Ac]; done) | (simp only [Ac]; omega)) only [↓Ah, Ae, Ai, Ag, eq_self, forall_const, Nat.reduceLT, Nat.reduceEqDiff, Nat.reduceSub, Nat.reduceMul, Nat.reduceMod, Nat.reduceDiv, Nat.reducePow, UInt8.reduceToNat, Int.reduceEq, Int.reduceLT, Int.reduceLE, ↓reduceIte, Nat.reduceAdd, Int.reduceToNat, reduceCtorEq, Nat.reduceLeDiff, ↓BH]
 by_cases h2 : b.length ≤ 9000
 case neg => simp -dsimp (disch := first | assumption | omega | (simp only [Ac]; done) | (simp only [Ac]; omega)) only [↓Ah, Ae, Ai, Ag, eq_self, forall_const, Nat.reduceLT, Nat.reduceEqDiff, Nat.reduceSub, Nat.reduceMul, Nat.reduceMod, Nat.reduceDiv, Nat.reducePow, UInt8.reduceToNat, Int.reduceEq, Int.reduceLT, Int.reduceLE, ↓reduceIte, Nat.reduceAdd, Int.reduceToNat, reduceCtorEq, Nat.reduceLeDiff, ↓BH]
 simp -dsimp (disch := first | assumption | omega | (simp only [Ac]; done) | (simp only [Ac]; omega)) only [↓Ah, Ae, Ai, Ag, eq_self, forall_const, Nat.reduceLT, Nat.reduceEqDiff, Nat.reduceSub, Nat.reduceMul, Nat.reduceMod, Nat.reduceDiv, Nat.reducePow, UInt8.reduceToNat, Int.reduceEq, Int.reduceLT, Int.reduceLE, ↓reduceIte, Nat.reduceAdd, Int.reduceToNat, reduceCtorEq, Nat.reduceLeDiff, ↓BH, ↓KY, ↓Lj, ↓LX]
 have htk : (l.map plT).take l.length = l.map plT := List.take_of_length_le (by simp)
 refine (Ai9 l (by omega) (fun p hp => (hl p hp).1) (fun p hp => (hl p hp).2) sum hs).lends (args' := [.sl 22 (l.map plT), .arr 20 1 (sum.map by8)]) (by simp -dsimp (disch := first | assumption | omega | (simp only [Ac]; done) | (simp only [Ac]; omega)) only [↓Ah, Ae, Ai, Ag, eq_self, forall_const, Nat.reduceLT, Nat.reduceEqDiff, Nat.reduceSub, Nat.reduceMul, Nat.reduceMod, Nat.reduceDiv, Nat.reducePow, UInt8.reduceToNat, Int.reduceEq, Int.reduceLT, Int.reduceLE, ↓reduceIte, Nat.reduceAdd, Int.reduceToNat, reduceCtorEq, Nat.reduceLeDiff, htk]) fun r hr => ?_
 have hr2 := Ad0 l (by omega) (fun p hp => (hl p hp).1) (fun p hp => (hl p hp).2) sum hs
 have hrd := VA b id (by omega) hi
 cases hw : wrF sha l sum with
 | none =>
  rw [hr.2 hw]
  simp -dsimp (disch := first | assumption | omega | (simp only [Ac]; done) | (simp only [Ac]; omega)) only [↓Ah, Ae, Ai, Ag, eq_self, forall_const, Nat.reduceLT, Nat.reduceEqDiff, Nat.reduceSub, Nat.reduceMul, Nat.reduceMod, Nat.reduceDiv, Nat.reducePow, UInt8.reduceToNat, Int.reduceEq, Int.reduceLT, Int.reduceLE, ↓reduceIte, Nat.reduceAdd, Int.reduceToNat, reduceCtorEq, Nat.reduceLeDiff, ↓ET, ↓Fp]
  refine Dq (fun m e H => ∃ i : Nat, m = l.length - i ∧ i ≤ l.length ∧ H = [Ob.obj 0 (TV.arr 20 1 (List.map by8 sum)), Ob.obj 0 (TV.arr 20 1 (List.map by8 id)), Ob.obj 1 (TV.arr l.length 22 (List.map plT l))] ∧ e = [(0, .sl 22 (l.map plT)), (2, slB b), (5, .op 0 0 []), (7, .op 1 0 []), (9, .os 22 2 1 [] 0 l.length l.length), (10, .val (.slice none 0 0)), (11, eno ((42 : Nat) : Int)), (12, i64 (i : Int))]) l.length ?_ ?_
  ·exact ⟨0, by simp, by omega, rfl, by simp [forget, get]⟩
  ·rintro m e H ⟨i, rfl, hil, rfl, rfl⟩
   by_cases h : i < l.length
   ·have hgi : l[i]? = some l[i] := List.getElem?_eq_getElem h
    generalize l[i] = q at *
    simp -dsimp (disch := first | assumption | omega | (simp only [Ac]; done) | (simp only [Ac]; omega)) only [↓Ah, Ae, Ai, Ag, eq_self, forall_const, Nat.reduceLT, Nat.reduceEqDiff, Nat.reduceSub, Nat.reduceMul, Nat.reduceMod, Nat.reduceDiv, Nat.reducePow, UInt8.reduceToNat, Int.reduceEq, Int.reduceLT, Int.reduceLE, ↓reduceIte, Nat.reduceAdd, Int.reduceToNat, reduceCtorEq, Nat.reduceLeDiff, ↓Ce, ↓Fj, hgi, BB, beq_self_eq_true]
    exact A8 (l.length - (i + 1)) (by omega) (by simp) ⟨i + 1, rfl, by omega, rfl, by simp [forget, get]⟩
   ·have hi2 : i = l.length := by omega
    subst hi2
    simp -dsimp (disch := first | assumption | omega | (simp only [Ac]; done) | (simp only [Ac]; omega)) only [↓Ah, Ae, Ai, Ag, eq_self, forall_const, Nat.reduceLT, Nat.reduceEqDiff, Nat.reduceSub, Nat.reduceMul, Nat.reduceMod, Nat.reduceDiv, Nat.reducePow, UInt8.reduceToNat, Int.reduceEq, Int.reduceLT, Int.reduceLE, ↓reduceIte, Nat.reduceAdd, Int.reduceToNat, reduceCtorEq, Nat.reduceLeDiff, ↓Ce, ↓EG]
    refine (Ae9 l (by omega)).calls rfl fun r hr => ?_
    subst hr
    simp -dsimp (disch := first | assumption | omega | (simp only [Ac]; done) | (simp only [Ac]; omega)) only [↓Ah, Ae, Ai, Ag, eq_self, forall_const, Nat.reduceLT, Nat.reduceEqDiff, Nat.reduceSub, Nat.reduceMul, Nat.reduceMod, Nat.reduceDiv, Nat.reducePow, UInt8.reduceToNat, Int.reduceEq, Int.reduceLT, Int.reduceLE, ↓reduceIte, Nat.reduceAdd, Int.reduceToNat, reduceCtorEq, Nat.reduceLeDiff, ↓ES]
    refine hr2.pure.calls rfl fun r hr => ?_
    rw [hr.2 hw]
    simp -dsimp (disch := first | assumption | omega | (simp only [Ac]; done) | (simp only [Ac]; omega)) only [↓Ah, Ae, Ai, Ag, eq_self, forall_const, Nat.reduceLT, Nat.reduceEqDiff, Nat.reduceSub, Nat.reduceMul, Nat.reduceMod, Nat.reduceDiv, Nat.reducePow, UInt8.reduceToNat, Int.reduceEq, Int.reduceLT, Int.reduceLE, ↓reduceIte, Nat.reduceAdd, Int.reduceToNat, reduceCtorEq, Nat.reduceLeDiff, ↓EO]
    refine ((same [] [] (by simp) (by simp)).argL (.cons AbE (.cons AbE .nil))).calls rfl fun r hr => ?_
    subst hr
    simp -dsimp (disch := first | assumption | omega | (simp only [Ac]; done) | (simp only [Ac]; omega)) only [↓Ah, Ae, Ai, Ag, eq_self, forall_const, Nat.reduceLT, Nat.reduceEqDiff, Nat.reduceSub, Nat.reduceMul, Nat.reduceMod, Nat.reduceDiv, Nat.reducePow, UInt8.reduceToNat, Int.reduceEq, Int.reduceLT, Int.reduceLE, ↓reduceIte, Nat.reduceAdd, Int.reduceToNat, reduceCtorEq, Nat.reduceLeDiff, ↓EK]
    refine AoB.calls rfl fun r hr => ?_
    subst hr
    simp -dsimp (disch := first | assumption | omega | (simp only [Ac]; done) | (simp only [Ac]; omega)) only [↓Ah, Ae, Ai, Ag, eq_self, forall_const, Nat.reduceLT, Nat.reduceEqDiff, Nat.reduceSub, Nat.reduceMul, Nat.reduceMod, Nat.reduceDiv, Nat.reducePow, UInt8.reduceToNat, Int.reduceEq, Int.reduceLT, Int.reduceLE, ↓reduceIte, Nat.reduceAdd, Int.reduceToNat, reduceCtorEq, Nat.reduceLeDiff, ↓EJ]
    refine Ap.callsP (hrd.calls rfl fun r hr => ?_)
    subst hr
    simp -dsimp (disch := first | assumption | omega | (simp only [Ac]; done) | (simp only [Ac]; omega)) only [↓Ah, Ae, Ai, Ag, eq_self, forall_const, Nat.reduceLT, Nat.reduceEqDiff, Nat.reduceSub, Nat.reduceMul, Nat.reduceMod, Nat.reduceDiv, Nat.reducePow, UInt8.reduceToNat, Int.reduceEq, Int.reduceLT, Int.reduceLE, ↓reduceIte, Nat.reduceAdd, Int.reduceToNat, reduceCtorEq, Nat.reduceLeDiff, ↓EP, ↓MM, ↓BH]
 | some x =>
  rw [hr.1 x hw]
  have hxl := AaX hl hs hw
  simp -dsimp (disch := first | assumption | omega | (simp only [Ac]; done) | (simp only [Ac]; omega)) only [↓Ah, Ae, Ai, Ag, eq_self, forall_const, Nat.reduceLT, Nat.reduceEqDiff, Nat.reduceSub, Nat.reduceMul, Nat.reduceMod, Nat.reduceDiv, Nat.reducePow, UInt8.reduceToNat, Int.reduceEq, Int.reduceLT, Int.reduceLE, ↓reduceIte, Nat.reduceAdd, Int.reduceToNat, reduceCtorEq, Nat.reduceLeDiff, ↓ET, ↓Fp]
  refine Dq (fun m e H => ∃ i : Nat, m = l.length - i ∧ i ≤ l.length ∧ H = [Ob.obj 0 (TV.arr 20 1 (List.map by8 sum)), Ob.obj 0 (TV.arr 20 1 (List.map by8 id)), Ob.obj 1 (TV.arr l.length 22 (List.map plT l))] ∧ e = [(0, .sl 22 (l.map plT)), (2, slB b), (5, .op 0 0 []), (7, .op 1 0 []), (9, .os 22 2 1 [] 0 l.length l.length), (10, slB x), (11, .val .nilIface), (12, i64 (i : Int))]) l.length ?_ ?_
  ·exact ⟨0, by simp, by omega, rfl, by simp [forget, get]⟩
  ·rintro m e H ⟨i, rfl, hil, rfl, rfl⟩
   by_cases h : i < l.length
   ·have hgi : l[i]? = some l[i] := List.getElem?_eq_getElem h
    generalize l[i] = q at *
    simp -dsimp (disch := first | assumption | omega | (simp only [Ac]; done) | (simp only [Ac]; omega)) only [↓Ah, Ae, Ai, Ag, eq_self, forall_const, Nat.reduceLT, Nat.reduceEqDiff, Nat.reduceSub, Nat.reduceMul, Nat.reduceMod, Nat.reduceDiv, Nat.reducePow, UInt8.reduceToNat, Int.reduceEq, Int.reduceLT, Int.reduceLE, ↓reduceIte, Nat.reduceAdd, Int.reduceToNat, reduceCtorEq, Nat.reduceLeDiff, ↓Ce, ↓Fj, hgi, BB, beq_self_eq_true]
    exact A8 (l.length - (i + 1)) (by omega) (by simp) ⟨i + 1, rfl, by omega, rfl, by simp [forget, get]⟩
   ·have hi2 : i = l.length := by omega
    subst hi2
    simp -dsimp (disch := first | assumption | omega | (simp only [Ac]; done) | (simp only [Ac]; omega)) only [↓Ah, Ae, Ai, Ag, eq_self, forall_const, Nat.reduceLT, Nat.reduceEqDiff, Nat.reduceSub, Nat.reduceMul, Nat.reduceMod, Nat.reduceDiv, Nat.reducePow, UInt8.reduceToNat, Int.reduceEq, Int.reduceLT, Int.reduceLE, ↓reduceIte, Nat.reduceAdd, Int.reduceToNat, reduceCtorEq, Nat.reduceLeDiff, ↓Ce, ↓EG]
    refine (Ae9 l (by omega)).calls rfl fun r hr => ?_
    subst hr
    simp -dsimp (disch := first | assumption | omega | (simp only [Ac]; done) | (simp only [Ac]; omega)) only [↓Ah, Ae, Ai, Ag, eq_self, forall_const, Nat.reduceLT, Nat.reduceEqDiff, Nat.reduceSub, Nat.reduceMul, Nat.reduceMod, Nat.reduceDiv, Nat.reducePow, UInt8.reduceToNat, Int.reduceEq, Int.reduceLT, Int.reduceLE, ↓reduceIte, Nat.reduceAdd, Int.reduceToNat, reduceCtorEq, Nat.reduceLeDiff, ↓ES]
    refine hr2.pure.calls rfl fun r hr => ?_
    rw [hr.1 x hw]
    simp -dsimp (disch := first | assumption | omega | (simp only [Ac]; done) | (simp only [Ac]; omega)) only [↓Ah, Ae, Ai, Ag, eq_self, forall_const, Nat.reduceLT, Nat.reduceEqDiff, Nat.reduceSub, Nat.reduceMul, Nat.reduceMod, Nat.reduceDiv, Nat.reducePow, UInt8.reduceToNat, Int.reduceEq, Int.reduceLT, Int.reduceLE, ↓reduceIte, Nat.reduceAdd, Int.reduceToNat, reduceCtorEq, Nat.reduceLeDiff, ↓EO]
    refine (same x x (by omega) (by omega)).calls rfl fun r hr => ?_
    subst hr
    simp -dsimp (disch := first | assumption | omega | (simp only [Ac]; done) | (simp only [Ac]; omega)) only [↓Ah, Ae, Ai, Ag, eq_self, forall_const, Nat.reduceLT, Nat.reduceEqDiff, Nat.reduceSub, Nat.reduceMul, Nat.reduceMod, Nat.reduceDiv, Nat.reducePow, UInt8.reduceToNat, Int.reduceEq, Int.reduceLT, Int.reduceLE, ↓reduceIte, Nat.reduceAdd, Int.reduceToNat, reduceCtorEq, Nat.reduceLeDiff, ↓EK]
    refine Aiw.calls rfl fun r hr => ?_
    subst hr
    simp -dsimp (disch := first | assumption | omega | (simp only [Ac]; done) | (simp only [Ac]; omega)) only [↓Ah, Ae, Ai, Ag, eq_self, forall_const, Nat.reduceLT, Nat.reduceEqDiff, Nat.reduceSub, Nat.reduceMul, Nat.reduceMod, Nat.reduceDiv, Nat.reducePow, UInt8.reduceToNat, Int.reduceEq, Int.reduceLT, Int.reduceLE, ↓reduceIte, Nat.reduceAdd, Int.reduceToNat, reduceCtorEq, Nat.reduceLeDiff, ↓EJ]
    refine Ap.callsP (hrd.calls rfl fun r hr => ?_)
    subst hr
    simp -dsimp (disch := first | assumption | omega | (simp only [Ac]; done) | (simp only [Ac]; omega)) only [↓Ah, Ae, Ai, Ag, eq_self, forall_const, Nat.reduceLT, Nat.reduceEqDiff, Nat.reduceSub, Nat.reduceMul, Nat.reduceMod, Nat.reduceDiv, Nat.reducePow, UInt8.reduceToNat, Int.reduceEq, Int.reduceLT, Int.reduceLE, ↓reduceIte, Nat.reduceAdd, Int.reduceToNat, reduceCtorEq, Nat.reduceLeDiff, ↓EP, ↓Nb]
    refine Ap.callsP ((VA x id (by omega) hi).calls rfl fun r hr => ?_)
    subst hr
    simp -dsimp (disch := first | assumption | omega | (simp only [Ac]; done) | (simp only [Ac]; omega)) only [↓Ah, Ae, Ai, Ag, eq_self, forall_const, Nat.reduceLT, Nat.reduceEqDiff, Nat.reduceSub, Nat.reduceMul, Nat.reduceMod, Nat.reduceDiv, Nat.reducePow, UInt8.reduceToNat, Int.reduceEq, Int.reduceLT, Int.reduceLE, ↓reduceIte, Nat.reduceAdd, Int.reduceToNat, reduceCtorEq, Nat.reduceLeDiff, ↓MP, ↓MH]
    refine Dq (fun m e H => ∃ i : Nat, m = l.length - i ∧ i ≤ l.length ∧ e = [(0, .sl 22 (l.map plT)), (10, slB x), (17, tb true), (18, tb true), (19, i64 (i : Int))] ∧ 3 ≤ H.length) l.length ?_ ?_
    ·exact ⟨0, by simp, by omega, by simp [forget, get], by simp⟩
    ·rintro m e H ⟨i, rfl, hil, rfl, hH⟩
     by_cases h : i < l.length
     ·have hgi : l[i]? = some l[i] := List.getElem?_eq_getElem h
      have hq := (hl _ (List.getElem_mem h)).1
      generalize l[i] = q at *
      simp -dsimp (disch := first | assumption | omega | (simp only [Ac]; done) | (simp only [Ac]; omega)) only [↓Ah, Ae, Ai, Ag, eq_self, forall_const, Nat.reduceLT, Nat.reduceEqDiff, Nat.reduceSub, Nat.reduceMul, Nat.reduceMod, Nat.reduceDiv, Nat.reducePow, UInt8.reduceToNat, Int.reduceEq, Int.reduceLT, Int.reduceLE, ↓reduceIte, Nat.reduceAdd, Int.reduceToNat, reduceCtorEq, Nat.reduceLeDiff, ↓E8, hgi, BB]
      refine Ap.callsP ((VA x q.id (by omega) hq).calls rfl fun r hr => ?_)
      subst hr
      simp -dsimp (disch := first | assumption | omega | (simp only [Ac]; done) | (simp only [Ac]; omega)) only [↓Ah, Ae, Ai, Ag, eq_self, forall_const, Nat.reduceLT, Nat.reduceEqDiff, Nat.reduceSub, Nat.reduceMul, Nat.reduceMod, Nat.reduceDiv, Nat.reducePow, UInt8.reduceToNat, Int.reduceEq, Int.reduceLT, Int.reduceLE, ↓reduceIte, Nat.reduceAdd, Int.reduceToNat, reduceCtorEq, Nat.reduceLeDiff]
      exact A8 (l.length - (i + 1)) (by omega) (by simpa using hH) ⟨i + 1, rfl, by omega, by simp [forget, get], hH⟩
     ·have hi2 : i = l.length := by omega
      subst hi2
      simp -dsimp (disch := first | assumption | omega | (simp only [Ac]; done) | (simp only [Ac]; omega)) only [↓Ah, Ae, Ai, Ag, eq_self, forall_const, Nat.reduceLT, Nat.reduceEqDiff, Nat.reduceSub, Nat.reduceMul, Nat.reduceMod, Nat.reduceDiv, Nat.reducePow, UInt8.reduceToNat, Int.reduceEq, Int.reduceLT, Int.reduceLE, ↓reduceIte, Nat.reduceAdd, Int.reduceToNat, reduceCtorEq, Nat.reduceLeDiff, ↓E8, ↓MN, ↓BH]
end Go.Proofs.YtmlompedpahkjaaDoor


namespace Go.Proofs.YtmlompedpahkjaaDoor.packIndexes
open Go.ChangeShapes Go.WideShapes Go.ChangeAt Go.RowKit
set_option linter.unusedVariables false

theorem own : ownKnob Tryd.prog.godebug = none := by kernel_rfl
instance gi : BA := ⟨[(0, CE)], by kernel_rfl⟩
instance : CX := ⟨by kernel_rfl⟩
theorem et : Tryd.prog.globalNamed "errors.errorType" = some 0 := by kernel_rfl
theorem rt : (Tryd.prog.cutTypes.find? (·.1 == "internal/reflectlite.rtype")).map (·.2) = some 172 := by kernel_rfl
theorem Amq : ((List.range Tryd.prog.types.size).filter fun t => Tryd.prog.rowNamed t [101, 114, 114, 111, 114]) = [26] := by kernel_rfl
theorem WR {W : World} (h : handlesMet Tryd.prog [("errors.errorType", Rows.laid_errors_errorType)] W) : ∃ t fr, W.heap[0]? = some (.cells CE.cells.toArray t fr) := by
 obtain ⟨name, u, ty, e1, e2, e3, e4, e5⟩ := h _ (List.mem_singleton.2 rfl)
 have en : name = [101, 114, 114, 111, 114] := (Option.some.inj e1).symm
 subst en
 obtain rfl := Option.some.inj (rt.symm.trans e2)
 have hm : ty ∈ (List.range Tryd.prog.types.size).filter fun t => Tryd.prog.rowNamed t [101, 114, 114, 111, 114] := List.mem_filter.2 ⟨List.mem_range.2 e3, e4⟩
 rw [Amq] at hm
 obtain rfl := List.mem_singleton.1 hm
 have hh : typeHandle Tryd.prog 26 = .pointer (some ⟨9, 26, none⟩) := by kernel_rfl
 rw [hh] at e5
 exact Ajx et e5
theorem Ze {W : World} (h : laidMetH Tryd.prog Rows.packIndexesRow.laid W) : JW (fun b => b < W.heap.size) W := by
 intro g x hx
 have hm := AbK hx
 have h' : laidMet Tryd.prog [] W ∧ handlesMet Tryd.prog [("errors.errorType", Rows.laid_errors_errorType)] W := h
 have hm' : (g, x) ∈ ([(0, CE)] : List (Nat × GV)) := hm
 simp only [List.mem_cons, List.mem_nil_iff, or_false, Prod.mk.injEq] at hm'
 have key : ∃ t fr, W.heap[g]? = some (.cells x.cells.toArray t fr) := by
  rcases hm' with ⟨rfl, rfl⟩
  ·exact WR h'.2
 obtain ⟨t, fr, hk⟩ := key
 exact ⟨(Array.getElem?_eq_some_iff.1 hk).1, t, fr, hk⟩
noncomputable def ZF (os : Os) : World :=
 let w0 := World.holding Tryd.prog os ⟨#[], #[.slice none 0 0, .agg #[.int .u8 0, .int .u8 0, .int .u8 0, .int .u8 0, .int .u8 0, .int .u8 0, .int .u8 0, .int .u8 0, .int .u8 0, .int .u8 0, .int .u8 0, .int .u8 0, .int .u8 0, .int .u8 0, .int .u8 0, .int .u8 0, .int .u8 0, .int .u8 0, .int .u8 0, .int .u8 0], .slice none 0 0, .agg #[.int .u8 0, .int .u8 0, .int .u8 0, .int .u8 0, .int .u8 0, .int .u8 0, .int .u8 0, .int .u8 0, .int .u8 0, .int .u8 0, .int .u8 0, .int .u8 0, .int .u8 0, .int .u8 0, .int .u8 0, .int .u8 0, .int .u8 0, .int .u8 0, .int .u8 0, .int .u8 0]], []⟩
 let w1 := { w0 with heap := w0.heap.modify 0 fun
   | .cells _ t frozen => .cells CE.cells.toArray t frozen
   | o => o }
 w1
theorem Yw (os : Os) (args : Array Value) : laidMetH Tryd.prog Rows.packIndexesRow.laid ((ZF os).forCall (fun _ _ => 0) ⟨#[], args, []⟩).memory :=
 laidMetH_of_parts (laidMet_nil _ _) (by kernel_rfl)

theorem Ajy : laidOutB Tryd.prog = true ∧ mapsRowed Tryd.prog = true :=
 have H := ClosedOfChecked.allSpec_of Tryd.checked.wellFormed (by kernel_rfl : Tryd.checked.prog.types = Tryd.checked.src.types)
 ⟨ClosedOfChecked.laidOutB_of H (by kernel_rfl), ClosedOfChecked.mapsRowed_of H⟩
theorem En {a b : Bool} (h : a = true) (k : b = true) : (a && b) = true := by rw [h, k]; rfl
theorem Aq8 : (Rows.packIndexesRow.wf (OpenSpec.ofChange Rows.packIndexesSpec)) = true := by kernel_rfl
theorem Aqc : (laidOutB Tryd.prog) = true := Ajy.1
theorem Apg : (mapsRowed Tryd.prog) = true := Ajy.2
theorem ApG : (Tryd.f4.params.all (Tryd.prog.readableRec ·)) = true := by kernel_rfl
theorem Aph : (namedTie Tryd.prog Rows.packIndexesRow.named Rows.packIndexesSpec.vars) = true := by kernel_rfl
theorem Api : ((Rows.packIndexesRow.stops == [])) = true := by kernel_rfl
theorem ApW : ((Tryd.prog.stops == [])) = true := by kernel_rfl
theorem Aqu : ((Rows.packIndexesRow.knobs == [])) = true := by kernel_rfl
theorem Ap2 : ((Tryd.prog.stopKnobs == [])) = true := by kernel_rfl
theorem Ap4 : ((Rows.packIndexesRow.inPlace == Tryd.prog.inPlace 4)) = true := by kernel_rfl
theorem AlZ : ((Rows.packIndexesRow.unfollowed == Tryd.prog.unfollowed 4)) = true := by kernel_rfl
theorem Ama : ((Rows.packIndexesRow.recurses == Tryd.prog.recurses 4)) = true := by kernel_rfl
theorem Aod : ((Rows.packIndexesRow.named == Tryd.prog.varsNamed 4)) = true := by kernel_rfl
theorem AnK : ((Rows.packIndexesRow.maps == (Tryd.f4.params.toList ++ Rows.packIndexesSpec.plain.varTypes Tryd.prog).any (Tryd.prog.mapsRec ·))) = true := by kernel_rfl
theorem Amc : ((Rows.packIndexesRow.ifaces == (Tryd.f4.params.toList ++ Rows.packIndexesSpec.plain.varTypes Tryd.prog).any (Tryd.prog.ifacesRec ·))) = true := by kernel_rfl
theorem AmV : ((Rows.packIndexesRow.mapsOut == Tryd.prog.mapsAmong Tryd.f4.resultTypes.toList)) = true := by kernel_rfl
theorem Am3 : ((Rows.packIndexesRow.loops == (Tryd.f4.params.toList ++ Rows.packIndexesSpec.plain.varTypes Tryd.prog).any (Tryd.prog.loopsFrom ·))) = true := by kernel_rfl
theorem Am0 : ((Rows.packIndexesRow.wideKeys == (Tryd.f4.params.toList ++ Rows.packIndexesSpec.plain.varTypes Tryd.prog ++ Tryd.f4.resultTypes.toList).any (Tryd.prog.wideKeysFrom ·))) = true := by kernel_rfl
theorem Am8 : (Rows.packIndexesSpec.vars.all (Tryd.prog.varReadable ·)) = true := by kernel_rfl
theorem Aof : (Tryd.f4.resultTypes.all (fun t => Tryd.prog.readableRec t && decide (t < Tryd.prog.types.size))) = true := by kernel_rfl
theorem AnX : ((Rows.packIndexesRow.ifacesOut == Tryd.f4.resultTypes.toList.any (Tryd.prog.ifacesRec ·))) = true := by kernel_rfl
theorem Amh : ((Rows.packIndexesRow.loopsOut == Tryd.f4.resultTypes.toList.any (Tryd.prog.loopsFrom ·))) = true := by kernel_rfl
theorem AnT : ((Rows.packIndexesRow.plainKeys == Tryd.prog.plainKeys)) = true := by kernel_rfl
theorem Aoz : (Rows.packIndexesRow.shortTexts.isNone) = true := by kernel_rfl
theorem An4 : (Tryd.prog.stopsHeard) = true := by kernel_rfl
theorem AnP : (Tryd.prog.mayEnter) = true := by kernel_rfl
theorem Anz : ((Rows.packIndexesRow.lifted == Tryd.prog.liftsFinal)) = true := by kernel_rfl
theorem Am1 : ((Tryd.prog.make == some Rows.packIndexesRow.make)) = true := by kernel_rfl
theorem Al0 : ((Rows.packIndexesRow.kinds == (if Rows.packIndexesRow.domain.isEmpty then [] else Tryd.f4.params.toList.map fun t => match Tryd.prog.underlying t with | some (.int k) => some k | _ => none))) = true := by kernel_rfl
theorem Aor : ((Rows.packIndexesRow.pinned == Rows.packIndexesRow.pinnedBy)) = true := by kernel_rfl
theorem Ane : ((Rows.packIndexesRow.veiled == (Tryd.f4.params.toList ++ Rows.packIndexesSpec.plain.varTypes Tryd.prog ++ Tryd.f4.resultTypes.toList).any (Tryd.prog.veiledRec ·))) = true := by kernel_rfl
theorem Al5 : (Rows.packIndexesRow.veiledFits Tryd.prog Tryd.f4.params.toList (Tryd.f4.params.toList ++ Rows.packIndexesSpec.plain.varTypes Tryd.prog ++ Tryd.f4.resultTypes.toList)) = true := by kernel_rfl
set_option maxRecDepth 100000 in
theorem AhM : ((Rows.packIndexesRow.wf (OpenSpec.ofChange Rows.packIndexesSpec)) && (laidOutB Tryd.prog) && (mapsRowed Tryd.prog) && (Tryd.f4.params.all (Tryd.prog.readableRec ·)) && (namedTie Tryd.prog Rows.packIndexesRow.named Rows.packIndexesSpec.vars) && ((Rows.packIndexesRow.stops == [])) && ((Tryd.prog.stops == [])) && ((Rows.packIndexesRow.knobs == [])) && ((Tryd.prog.stopKnobs == [])) && ((Rows.packIndexesRow.inPlace == Tryd.prog.inPlace 4)) && ((Rows.packIndexesRow.unfollowed == Tryd.prog.unfollowed 4)) && ((Rows.packIndexesRow.recurses == Tryd.prog.recurses 4)) && ((Rows.packIndexesRow.named == Tryd.prog.varsNamed 4)) && ((Rows.packIndexesRow.maps == (Tryd.f4.params.toList ++ Rows.packIndexesSpec.plain.varTypes Tryd.prog).any (Tryd.prog.mapsRec ·))) && ((Rows.packIndexesRow.ifaces == (Tryd.f4.params.toList ++ Rows.packIndexesSpec.plain.varTypes Tryd.prog).any (Tryd.prog.ifacesRec ·))) && ((Rows.packIndexesRow.mapsOut == Tryd.prog.mapsAmong Tryd.f4.resultTypes.toList)) && ((Rows.packIndexesRow.loops == (Tryd.f4.params.toList ++ Rows.packIndexesSpec.plain.varTypes Tryd.prog).any (Tryd.prog.loopsFrom ·))) && ((Rows.packIndexesRow.wideKeys == (Tryd.f4.params.toList ++ Rows.packIndexesSpec.plain.varTypes Tryd.prog ++ Tryd.f4.resultTypes.toList).any (Tryd.prog.wideKeysFrom ·))) && (Rows.packIndexesSpec.vars.all (Tryd.prog.varReadable ·)) && (Tryd.f4.resultTypes.all (fun t => Tryd.prog.readableRec t && decide (t < Tryd.prog.types.size))) && ((Rows.packIndexesRow.ifacesOut == Tryd.f4.resultTypes.toList.any (Tryd.prog.ifacesRec ·))) && ((Rows.packIndexesRow.loopsOut == Tryd.f4.resultTypes.toList.any (Tryd.prog.loopsFrom ·))) && ((Rows.packIndexesRow.plainKeys == Tryd.prog.plainKeys)) && (Rows.packIndexesRow.shortTexts.isNone) && (Tryd.prog.stopsHeard) && (Tryd.prog.mayEnter) && ((Rows.packIndexesRow.lifted == Tryd.prog.liftsFinal)) && ((Tryd.prog.make == some Rows.packIndexesRow.make)) && ((Rows.packIndexesRow.kinds == (if Rows.packIndexesRow.domain.isEmpty then [] else Tryd.f4.params.toList.map fun t => match Tryd.prog.underlying t with | some (.int k) => some k | _ => none))) && ((Rows.packIndexesRow.pinned == Rows.packIndexesRow.pinnedBy)) && ((Rows.packIndexesRow.veiled == (Tryd.f4.params.toList ++ Rows.packIndexesSpec.plain.varTypes Tryd.prog ++ Tryd.f4.resultTypes.toList).any (Tryd.prog.veiledRec ·))) && (Rows.packIndexesRow.veiledFits Tryd.prog Tryd.f4.params.toList (Tryd.f4.params.toList ++ Rows.packIndexesSpec.plain.varTypes Tryd.prog ++ Tryd.f4.resultTypes.toList))) = true := (En (En (En (En (En (En (En (En (En (En (En (En (En (En (En (En (En (En (En (En (En (En (En (En (En (En (En (En (En (En (En Aq8 Aqc) Apg) ApG) Aph) Api) ApW) Aqu) Ap2) Ap4) AlZ) Ama) Aod) AnK) Amc) AmV) Am3) Am0) Am8) Aof) AnX) Amh) AnT) Aoz) An4) AnP) Anz) Am1) Al0) Aor) Ane) Al5)
set_option maxRecDepth 100000 in
theorem AaR : joinedFacts Tryd.prog 4 Tryd.f4 Rows.packIndexesSpec Rows.packIndexesRow = true := AhM
set_option maxRecDepth 100000 in
theorem lifted (os : Os) (started : os.Started) (H : Type) (enc : TypeId × Value → H) :
  ReturnsInHanded {} Tryd.checked os 4 .any (fun w args => (Rows.packIndexesSpec.pre enc Tryd.prog Tryd.f4 [] false w args ∧ laidMetH Tryd.prog Rows.packIndexesRow.laid w) ∧ sizedMet enc Tryd.prog Tryd.f4 (OpenSpec.ofChange Rows.packIndexesSpec) false w args) (Rows.packIndexesSpec.post enc Tryd.prog Tryd.f4 false true false false) := by
 refine returnsInHanded_of_change_and (C := Tryd.checked) (X := fun w _ => laidMetH Tryd.prog Rows.packIndexesRow.laid w) (fun _ _ _ hh h => h.of_heap hh) own started (by kernel_rfl) Tryd.func4
  (ChangeSpec.witness_at (enc := enc) (C := Tryd.checked) (os := os) (X := fun w _ => laidMetH Tryd.prog Rows.packIndexesRow.laid w) false (ZF os) #[.slice none 0 0, .agg #[.int .u8 0, .int .u8 0, .int .u8 0, .int .u8 0, .int .u8 0, .int .u8 0, .int .u8 0, .int .u8 0, .int .u8 0, .int .u8 0, .int .u8 0, .int .u8 0, .int .u8 0, .int .u8 0, .int .u8 0, .int .u8 0, .int .u8 0, .int .u8 0, .int .u8 0, .int .u8 0], .slice none 0 0, .agg #[.int .u8 0, .int .u8 0, .int .u8 0, .int .u8 0, .int .u8 0, .int .u8 0, .int .u8 0, .int .u8 0, .int .u8 0, .int .u8 0, .int .u8 0, .int .u8 0, .int .u8 0, .int .u8 0, .int .u8 0, .int .u8 0, .int .u8 0, .int .u8 0, .int .u8 0, .int .u8 0]] 8 rfl (by kernel_rfl) (by kernel_rfl) (by kernel_rfl) (by kernel_rfl) (by kernel_rfl) (Yw os _)) ?_
 intro W base args ds gs before hval0 hW hcnd hsz0 hL _
 have hsz : (DataW.weightsEach Tryd.prog (Tryd.f4.params.toList ++ Rows.packIndexesSpec.plain.varTypes Tryd.prog) (ds ++ gs)).all (· ≤ reachBytes) = true := hsz0
 have hval : ∀ (j : Nat) t v, Tryd.f4.params[j]? = some t → args[j]? = some v → Value.okWide Tryd.prog W .any base t v := hval0
 have hW' := hW
 obtain ⟨p, q, hA0, hV, rfl, hfz, hnd⟩ := hW
 have hA : DataW.TrodAll enc Tryd.prog W 0 (fun _ => true) true Tryd.f4.params.toList args.toList ds p := hA0
 obtain ⟨rfl, rfl⟩ := trodVars_none hV
 have hsz2 : (DataW.weightsEach Tryd.prog Tryd.f4.params.toList ds).all (· ≤ reachBytes) = true := by
  have e : Tryd.f4.params.toList ++ Rows.packIndexesSpec.plain.varTypes Tryd.prog = Tryd.f4.params.toList := by simp [ChangeSpec.plain, Rows.packIndexesSpec]; rfl
  rw [e, List.append_nil] at hsz; exact hsz
 have hA' := hA
 have hps : (Tryd.f4.params.toList.all fun t => Tryd.prog.readableRec t && decide (t < Tryd.prog.types.size)) = true := by kernel_rfl
 have hv2 : ∀ (j : Nat) t v, Tryd.f4.params.toList[j]? = some t → args.toList[j]? = some v → ∃ base, Value.okWide Tryd.prog W .any base t v := fun j t v h1 h2 => ⟨base, hval j t v (by rw [← Array.getElem?_toList]; exact h1) (by rw [← Array.getElem?_toList]; exact h2)⟩
 rw [Tryd.params4] at hA hsz2 hv2
 obtain ⟨dsE, hdsE⟩ : ∃ x, x = ds := ⟨_, rfl⟩
 refine (Anw (f := 4) (Gh Yz (UD Tryd.underlying36) (fun _ => rfl) (Gh (TL Tryd.underlying38 (by kernel_rfl)) (Un Tryd.underlying38) (fun _ => rfl) (Gh (Zk Tryd.underlying23 Tryd.underlying5 (by kernel_rfl) (by kernel_rfl)) (UD Tryd.underlying23) (fun _ => rfl) (Gh (TL Tryd.underlying38 (by kernel_rfl)) (Un Tryd.underlying38) (fun _ => rfl) Ya)))) (fun a h => Acl a.1 a.2.1 a.2.2.1 a.2.2.2.1 h.1 h.2.1 h.2.2.2.1) hA hv2 hsz2 (Ze hL)).mono fun e W' ⟨he, bel⟩ => ?_
 subst he
 have hB := Tu Ajy.1 bel hps hA'
 have hAo := hA
 obtain ⟨v0, vs0, d0, ds0, p0, q0, ha0, hd0, hp0, h0, r0⟩ := trodAll_cons hAo
 obtain ⟨v1, vs1, d1, ds1, p1, q1, ha1, hd1, hp1, h1, r1⟩ := trodAll_cons r0
 obtain ⟨v2, vs2, d2, ds2, p2, q2, ha2, hd2, hp2, h2, r2⟩ := trodAll_cons r1
 obtain ⟨v3, vs3, d3, ds3, p3, q3, ha3, hd3, hp3, h3, r3⟩ := trodAll_cons r2
 obtain ⟨hz1, hz2, hz3⟩ := trodAll_nil r3
 have hd : ds = [d0, d1, d2, d3] := by rw [hd0, hd1, hd2, hd3, hz2]
 subst hd
 exact ⟨_, rfl, _, _, _, [], _, [], hW', trodAll_mk1 (shut_bool Tryd.underlying4 _), hB, rfl, bel.frame _, fun h => by cases h⟩

theorem over : Rows.packIndexesRow.holds Tryd.pinned (OpenSpec.ofChange Rows.packIndexesSpec) :=
 OpenClaim.holds_of_wide 4 Tryd.f4 rfl rfl rfl rfl rfl rfl rfl ⟨rfl, rfl, rfl, rfl, rfl⟩ rfl rfl rfl rfl rfl (by kernel_rfl) Tryd.func4 AaR
  (of_decide_eq_true (by kernel_rfl)) (by unfold Func.isWrapper; first | (rw [if_pos (by decide +kernel)]; kernel_rfl) | (rw [if_neg (by decide +kernel)]; exact ⟨rfl, rfl⟩))
  (fun os started H enc _ => lifted os started H enc)
theorem stands : (Tryd.f4.params.toList.all fun t => !Tryd.prog.wantsStandIn t) = true := by kernel_rfl
theorem proved : Rows.PackIndexesCardSaid :=
 Claim7.holds_tied_plain_at .later [] [.handle] true (true, "441e77b89fd3d084e199b1e4e12267242f916a82052141bf8d8d61eeccfbb5c5") true
  over (fun _ h => by cases h) (by kernel_rfl) (fun _ h => by cases h) packIndexes_row_tie rfl ⟨rfl, rfl⟩ (by kernel_rfl) rfl
  (fun f fn hf hfn => by
   obtain rfl : f = 4 := (Option.some.inj ((show Tryd.prog.funcNamed "gitlike/gitlikelaw5.PackIndexes" = some 4 by kernel_rfl).symm.trans hf)).symm
   obtain rfl : fn = Tryd.f4 := (Option.some.inj (Tryd.func4.symm.trans hfn)).symm
   exact ⟨by kernel_rfl, fun j t ht => by
    rw [← Array.getElem?_toList] at ht
    have := List.all_eq_true.1 stands t (List.mem_of_getElem? ht)
    exact (show Tryd.prog.wantsStandIn t = false by simpa using this)⟩)
  (by kernel_rfl)
#print axioms proved
end Go.Proofs.YtmlompedpahkjaaDoor.packIndexes

