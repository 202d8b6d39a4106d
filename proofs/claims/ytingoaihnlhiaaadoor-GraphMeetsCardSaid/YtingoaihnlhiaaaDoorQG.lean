/- GraphMeetsCard: the law, proved out of contracts of the functions that it reaches (texts merged; names shortened by a program). No condition is laid on it. -/
import Derived.Test.YtingoaihnlhiaaaDoorQF
import Derived.SevenTiedAt
import Derived.Test.YtingoaihnlhiaaaDoorCards
import Derived.Test.YtingoaihnlhiaaaDoorTie
import Derived.Test.YtingoaihnlhiaaaDoorRows
import Derived.Test.YtingoaihnlhiaaaDoorProg
import Derived.WalkKit
import Derived.ProofKit
import Derived.OpenShut
import Derived.ShutString
import Derived.ChangeOld
import Derived.Below
import Derived.SizedLaws
import Derived.ChangeVars
import Derived.LaidLaws
import Derived.LaidHandle
import Derived.Stop.Joined
import Derived.ClosedOfChecked
import Derived.Test.YtingoaihnlhiaaaDoorQD
namespace Go.Proofs.YtingoaihnlhiaaaDoor
open Go.RowKit
variable [Bc] [BX]
set_option linter.unusedSectionVars false
set_option linter.unusedVariables false
set_option linter.unusedSimpArgs false

theorem MV.argL {P : Program} {f : FuncId} {args args' : List TV} {R : TV → Prop} (h : MV P f args' R) (hc : XN args args') : MV P f args R :=
 fun β F w vs hF hv => h β F w vs hF (hc.rep hv)
theorem ApE : Gh Tryd.prog 9 [.val (.slice none 0 0)] (fun r => r = .sl 20 []) := by
 refine Aq.toPureV (Wy (by simp) ?_)
 simp -dsimp (disch := first | assumption | omega | (simp only [Ad]; done) | (simp only [Ad]; omega)) only [↓Ah, Ae, Ag, Ai, eq_self, forall_const, Nat.reduceLT, Nat.reduceEqDiff, Nat.reduceSub, Nat.reduceMul, Nat.reduceMod, Nat.reduceDiv, Nat.reducePow, UInt8.reduceToNat, Int.reduceEq, Int.reduceLT, Int.reduceLE, ↓reduceIte, Nat.reduceAdd, Int.reduceToNat, reduceCtorEq, Nat.reduceLeDiff, ↓J3]
 refine BN (fun q e H => e = [(0, .val (.slice none 0 0)), (3, .os 20 0 0 [] 0 0 0), (4, i64 ((0 : Nat) : Int))] ∧ H = [.obj 0 (.arr 0 20 [])]) 0 ?_ ?_
 ·exact ⟨by simp [forget, get], rfl⟩
 ·rintro q e H ⟨rfl, rfl⟩
  simp -dsimp (disch := first | assumption | omega | (simp only [Ad]; done) | (simp only [Ad]; omega)) only [↓Ah, Ae, Ag, Ai, eq_self, forall_const, Nat.reduceLT, Nat.reduceEqDiff, Nat.reduceSub, Nat.reduceMul, Nat.reduceMod, Nat.reduceDiv, Nat.reducePow, UInt8.reduceToNat, Int.reduceEq, Int.reduceLT, Int.reduceLE, ↓reduceIte, Nat.reduceAdd, Int.reduceToNat, reduceCtorEq, Nat.reduceLeDiff, ↓J3]
theorem Aqr : Gh Tryd.prog 11 [.val (.slice none 0 0), .sl 20 []] (fun r => r = tb true) := by
 refine Aq.toPureV (YK (by simp) ?_)
 simp -dsimp (disch := first | assumption | omega | (simp only [Ad]; done) | (simp only [Ad]; omega)) only [↓Ah, Ae, Ag, Ai, eq_self, forall_const, Nat.reduceLT, Nat.reduceEqDiff, Nat.reduceSub, Nat.reduceMul, Nat.reduceMod, Nat.reduceDiv, Nat.reducePow, UInt8.reduceToNat, Int.reduceEq, Int.reduceLT, Int.reduceLE, ↓reduceIte, Nat.reduceAdd, Int.reduceToNat, reduceCtorEq, Nat.reduceLeDiff, ↓LY]
 refine BN (fun q e H => e = [(0, .val (.slice none 0 0)), (1, .sl 20 []), (5, i64 ((0 : Nat) : Int))] ∧ H = []) 0 ?_ ?_
 ·exact ⟨by simp [forget, get], rfl⟩
 ·rintro q e H ⟨rfl, rfl⟩
  simp -dsimp (disch := first | assumption | omega | (simp only [Ad]; done) | (simp only [Ad]; omega)) only [↓Ah, Ae, Ag, Ai, eq_self, forall_const, Nat.reduceLT, Nat.reduceEqDiff, Nat.reduceSub, Nat.reduceMul, Nat.reduceMod, Nat.reduceDiv, Nat.reducePow, UInt8.reduceToNat, Int.reduceEq, Int.reduceLT, Int.reduceLE, ↓reduceIte, Nat.reduceAdd, Int.reduceToNat, reduceCtorEq, Nat.reduceLeDiff, ↓LY]
theorem Ahg {l : List Nd} {x y : List UInt8} : BV [.sl 22 (l.map ndT), .arr 20 1 (x.map by8), .arr 20 1 (y.map by8)] = true := by
 rw [← AP, ← AP]; simp [BV, DU]; rfl
theorem Aqa {l : List Nd} (hok : GOk l) (hl : l.length ≤ 1000) (hp : ∀ n ∈ l, n.ps.length ≤ 1000) {x y : List UInt8} (hx : x ∈ AL l) (hy : y ∈ AL l) : Gh Tryd.prog 13 [.sl 22 (l.map ndT), .arr 20 1 (x.map by8), .arr 20 1 (y.map by8)] (fun r => r = .tup [tb (dec (Rc l [x] y)), .val .nilIface]) := by
 rw [← AP, ← AP]
 exact (AdW l hl hp x y).mono fun r hr => hr.1 ⟨hok, by simp [MR, hx, hy]⟩
theorem Aja {l : List Nd} {a b : List UInt8} {B : List (List UInt8)} {i k : Nat} (hi : i < l.length) (hk : k < B.length) {n : Nd} {x : List UInt8} (hg : l[i]? = some n) (hg3 : B[k]? = some x) {c d ab u : Bool}
  (hf1 : x = n.id → c = true ∧ d = true) (hf2 : x ≠ n.id → u = true → c = true → d = true → False) {M : VEx → Env → List Ob → Prop}
  (hM : M .nor [(0, .sl 22 (l.map ndT)), (4, .op 0 0 []), (5, .op 1 0 []), (8, .sl 20 (B.map idT)), (18, i64 (i : Int)), (22, tb c), (24, tb d), (26, tb ab), (27, i64 (k : Int)), (236, tb false)] [.obj 0 (idT a), .obj 0 (idT b), .obj 0 (.arr 2 20 [idT a, idT b])]) :
  vwp Tryd.prog FB M [(0, .sl 22 (l.map ndT)), (4, .op 0 0 []), (5, .op 1 0 []), (8, .sl 20 (B.map idT)), (18, i64 (i : Int)), (22, tb c), (24, tb d), (26, tb ab), (27, i64 (k : Int)), (30, tb u)] [.obj 0 (idT a), .obj 0 (idT b), .obj 0 (.arr 2 20 [idT a, idT b])] := by
 by_cases e : x = n.id
 ·have hxq : (x == n.id) = true := by simp [e]
  obtain ⟨rfl, rfl⟩ := hf1 e
  simp -dsimp (disch := first | assumption | omega | (simp only [Ad]; done) | (simp only [Ad]; omega)) only [↓Ah, Ae, Ag, Ai, eq_self, forall_const, Nat.reduceLT, Nat.reduceEqDiff, Nat.reduceSub, Nat.reduceMul, Nat.reduceMod, Nat.reduceDiv, Nat.reducePow, UInt8.reduceToNat, Int.reduceEq, Int.reduceLT, Int.reduceLE, ↓reduceIte, Nat.reduceAdd, Int.reduceToNat, reduceCtorEq, Nat.reduceLeDiff, ↓IU, hg, Bf, hg3, AP, hxq]
  exact hM
 ·have hxq : (x == n.id) = false := by simp [e]
  have hf3 := hf2 e
  cases u <;> cases c <;> cases d <;> first
   | exact (hf3 rfl rfl rfl).elim
   | (
    simp -dsimp (disch := first | assumption | omega | (simp only [Ad]; done) | (simp only [Ad]; omega)) only [↓Ah, Ae, Ag, Ai, eq_self, forall_const, Nat.reduceLT, Nat.reduceEqDiff, Nat.reduceSub, Nat.reduceMul, Nat.reduceMod, Nat.reduceDiv, Nat.reducePow, UInt8.reduceToNat, Int.reduceEq, Int.reduceLT, Int.reduceLE, ↓reduceIte, Nat.reduceAdd, Int.reduceToNat, reduceCtorEq, Nat.reduceLeDiff, ↓IU, hg, Bf, hg3, AP, hxq]
    exact hM)
theorem AjS {l : List Nd} {a b : List UInt8} (hok : GOk l) (hl : l.length ≤ 1000) (hp' : ∀ n ∈ l, n.ps.length ≤ 1000) {B : List (List UInt8)} {i k : Nat} (hi : i < l.length) (hk : k < B.length) (hBl : B.length ≤ 1000) {n : Nd} {x : List UInt8} (hg : l[i]? = some n) (hg3 : B[k]? = some x) (hni : n.id ∈ AL l) (hxl : x ∈ AL l) {c d ab : Bool} {w : TV}
  (hf1 : x = n.id → c = true ∧ d = true) (hf2 : x ≠ n.id → dec (Rc l [n.id] x) = true → c = true → d = true → False) {M : VEx → Env → List Ob → Prop}
  (hM : M .nor [(0, .sl 22 (l.map ndT)), (4, .op 0 0 []), (5, .op 1 0 []), (8, .sl 20 (B.map idT)), (18, i64 (i : Int)), (22, tb c), (24, tb d), (26, tb (ab || dec (Rc l [x] n.id))), (27, i64 ((k + 1 : Nat) : Int))] [.obj 0 (idT a), .obj 0 (idT b), .obj 0 (.arr 2 20 [idT a, idT b])]) :
  vwp Tryd.prog FO M [(0, .sl 22 (l.map ndT)), (4, .op 0 0 []), (5, .op 1 0 []), (8, .sl 20 (B.map idT)), (18, i64 (i : Int)), (22, tb c), (24, tb d), (26, tb ab), (27, i64 (k : Int)), (163, w)] [.obj 0 (idT a), .obj 0 (idT b), .obj 0 (.arr 2 20 [idT a, idT b])] := by
 simp -dsimp (disch := first | assumption | omega | (simp only [Ad]; done) | (simp only [Ad]; omega)) only [↓Ah, Ae, Ag, Ai, eq_self, forall_const, Nat.reduceLT, Nat.reduceEqDiff, Nat.reduceSub, Nat.reduceMul, Nat.reduceMod, Nat.reduceDiv, Nat.reducePow, UInt8.reduceToNat, Int.reduceEq, Int.reduceLT, Int.reduceLE, ↓reduceIte, Nat.reduceAdd, Int.reduceToNat, reduceCtorEq, Nat.reduceLeDiff, ↓Rt, hg, Bf, hg3, Be, Ci, BR, KW, DU]
 refine ⟨_, (Aqa hok (by omega) hp' hxl hni).calls Ahg fun r hr => ⟨hr, rfl⟩, ?_⟩
 have hup := Aqa hok (by omega) hp' hni hxl
 generalize dec (Rc l [x] n.id) = r0 at *
 generalize dec (Rc l [n.id] x) = u at *
 cases ab <;> cases r0 <;> (
  simp -dsimp (disch := first | assumption | omega | (simp only [Ad]; done) | (simp only [Ad]; omega)) only [↓Ah, Ae, Ag, Ai, eq_self, forall_const, Nat.reduceLT, Nat.reduceEqDiff, Nat.reduceSub, Nat.reduceMul, Nat.reduceMod, Nat.reduceDiv, Nat.reducePow, UInt8.reduceToNat, Int.reduceEq, Int.reduceLT, Int.reduceLE, ↓reduceIte, Nat.reduceAdd, Int.reduceToNat, reduceCtorEq, Nat.reduceLeDiff, ↓RV, ↓RN, hg, Bf, hg3, Be, Ci, BR, KW, DU]
  refine ⟨_, hup.calls Ahg fun r hr => ⟨hr, rfl⟩, ?_⟩
  simp -dsimp (disch := first | assumption | omega | (simp only [Ad]; done) | (simp only [Ad]; omega)) only [↓Ah, Ae, Ag, Ai, eq_self, forall_const, Nat.reduceLT, Nat.reduceEqDiff, Nat.reduceSub, Nat.reduceMul, Nat.reduceMod, Nat.reduceDiv, Nat.reducePow, UInt8.reduceToNat, Int.reduceEq, Int.reduceLT, Int.reduceLE, ↓reduceIte, Nat.reduceAdd, Int.reduceToNat, reduceCtorEq, Nat.reduceLeDiff]
  refine Aja hi hk hg hg3 hf1 hf2 ?_
  simp -dsimp (disch := first | assumption | omega | (simp only [Ad]; done) | (simp only [Ad]; omega)) only [↓Ah, Ae, Ag, Ai, eq_self, forall_const, Nat.reduceLT, Nat.reduceEqDiff, Nat.reduceSub, Nat.reduceMul, Nat.reduceMod, Nat.reduceDiv, Nat.reducePow, UInt8.reduceToNat, Int.reduceEq, Int.reduceLT, Int.reduceLE, ↓reduceIte, Nat.reduceAdd, Int.reduceToNat, reduceCtorEq, Nat.reduceLeDiff]
  exact hM)
theorem Aj8 (l : List Nd) (a b : List UInt8) (h20 : ∀ n ∈ l, n.id.length = 20) (ha : a.length = 20) (hb : b.length = 20) : Gh Tryd.prog 5 [.sl 22 (l.map ndT), idT a, idT b] (fun r => r = tb true) := by
 refine Aq.toPureV (Xj (by simp) ?_)
 simp -dsimp (disch := first | assumption | omega | (simp only [Ad]; done) | (simp only [Ad]; omega)) only [↓Ah, Ae, Ag, Ai, eq_self, forall_const, Nat.reduceLT, Nat.reduceEqDiff, Nat.reduceSub, Nat.reduceMul, Nat.reduceMod, Nat.reduceDiv, Nat.reducePow, UInt8.reduceToNat, Int.reduceEq, Int.reduceLT, Int.reduceLE, ↓reduceIte, Nat.reduceAdd, Int.reduceToNat, reduceCtorEq, Nat.reduceLeDiff, ↓Vz, ↓Py, ↓CZ, AP]
 refine (A3o l).calls rfl ?_
 rintro _ rfl
 cases hf : Aig l with
 | false => simp -dsimp (disch := first | assumption | omega | (simp only [Ad]; done) | (simp only [Ad]; omega)) only [↓Ah, Ae, Ag, Ai, eq_self, forall_const, Nat.reduceLT, Nat.reduceEqDiff, Nat.reduceSub, Nat.reduceMul, Nat.reduceMod, Nat.reduceDiv, Nat.reducePow, UInt8.reduceToNat, Int.reduceEq, Int.reduceLT, Int.reduceLE, ↓reduceIte, Nat.reduceAdd, Int.reduceToNat, reduceCtorEq, Nat.reduceLeDiff, ↓Ir, ↓CZ]
 | true =>
  obtain ⟨hl, hp⟩ := Ah3 hf
  have hp' : ∀ n ∈ l, n.ps.length ≤ 1000 := fun n hn => Nat.le_trans (hp n hn) (by omega)
  have h20' : ∀ x ∈ AL l, x.length = 20 := fun x hx => by obtain ⟨n, hn, rfl⟩ := List.mem_map.1 hx; exact h20 n hn
  simp -dsimp (disch := first | assumption | omega | (simp only [Ad]; done) | (simp only [Ad]; omega)) only [↓Ah, Ae, Ag, Ai, eq_self, forall_const, Nat.reduceLT, Nat.reduceEqDiff, Nat.reduceSub, Nat.reduceMul, Nat.reduceMod, Nat.reduceDiv, Nat.reducePow, UInt8.reduceToNat, Int.reduceEq, Int.reduceLT, Int.reduceLE, ↓reduceIte, Nat.reduceAdd, Int.reduceToNat, reduceCtorEq, Nat.reduceLeDiff, ↓Ir, ↓P6]
  rw [← AP, ← AP]
  refine (Ac0 l (by omega) hp' a b).calls (by simp [BV, DU]; rfl) fun r hr => ?_
  by_cases hok : Abd l [a, b]
  ·have hok2 : Abd l [b, a] := ⟨hok.1, by have := hok.2; simp at this ⊢; exact ⟨this.2, this.1⟩⟩
   have hin0 : ∀ x ∈ [a, b], x ∈ AL l := fun x hx => MR.1 (List.all_eq_true.1 hok.2 x hx)
   have hal := hin0 a (by simp)
   have hbl := hin0 b (by simp)
   have hin : ∀ z, Rc l [a] z ∧ Rc l [b] z → z ∈ AL l := fun z h => Rc.there hok.1.1 (fun y hy => hin0 y (by simp at hy; simp [hy])) h.1
   obtain ⟨t, ht, hst⟩ : ∃ t, SD t ∧ ∀ z, z ∈ t ↔ Rc l [a] z ∧ Rc l [b] z := by
    obtain ⟨t, ht, h⟩ := Ah8 ((AL l).filter fun z => dec (Rc l [a] z ∧ Rc l [b] z))
    refine ⟨t, ht, fun z => ?_⟩
    rw [h z, List.mem_filter, EN]
    exact ⟨fun h => h.2, fun h => ⟨hin z h, h⟩⟩
   have htl : ∀ x ∈ t, x ∈ AL l := fun x hx => hin x ((hst x).1 hx)
   have hbel := Afq hok.1 htl hst
   have hbu : ∀ x ∈ VP l t, ∀ y, y ∈ t → y ≠ x → ¬ Rc l [y] x := fun x hx y hy hne => Afs hx hy hne
   have hbs : ∀ x ∈ VP l t, x ∈ t := fun x hx => Ad9 hx
   have hbln : (VP l t).length ≤ 40 := by
    have h1 := Gf ht.nodup htl
    have h2 : (AL l).length = l.length := by simp [AL]
    exact Nat.le_trans (List.length_filter_le _ _) (by omega)
   have e1 := hr.1 hok t ht hst
   subst e1
   have hst2 : ∀ z, z ∈ t ↔ Rc l [b] z ∧ Rc l [a] z := fun z => (hst z).trans and_comm
   simp -dsimp (disch := first | assumption | omega | (simp only [Ad]; done) | (simp only [Ad]; omega)) only [↓Ah, Ae, Ag, Ai, eq_self, forall_const, Nat.reduceLT, Nat.reduceEqDiff, Nat.reduceSub, Nat.reduceMul, Nat.reduceMod, Nat.reduceDiv, Nat.reducePow, UInt8.reduceToNat, Int.reduceEq, Int.reduceLT, Int.reduceLE, ↓reduceIte, Nat.reduceAdd, Int.reduceToNat, reduceCtorEq, Nat.reduceLeDiff, ↓Il, Be, Ci, BR]
   refine (Ac0 l (by omega) hp' b a).calls (by simp [BV, DU]; rfl) fun r hr => ?_
   have e1 := hr.1 hok2 t ht hst2
   subst e1
   generalize VP l t = B at *
   simp -dsimp (disch := first | assumption | omega | (simp only [Ad]; done) | (simp only [Ad]; omega)) only [↓Ah, Ae, Ag, Ai, eq_self, forall_const, Nat.reduceLT, Nat.reduceEqDiff, Nat.reduceSub, Nat.reduceMul, Nat.reduceMod, Nat.reduceDiv, Nat.reducePow, UInt8.reduceToNat, Int.reduceEq, Int.reduceLT, Int.reduceLE, ↓reduceIte, Nat.reduceAdd, Int.reduceToNat, reduceCtorEq, Nat.reduceLeDiff, ↓H6, Be, Ci, BR]
   refine (AqJ B (by omega)).calls rfl fun r hr => ?_
   subst hr
   simp -dsimp (disch := first | assumption | omega | (simp only [Ad]; done) | (simp only [Ad]; omega)) only [↓Ah, Ae, Ag, Ai, eq_self, forall_const, Nat.reduceLT, Nat.reduceEqDiff, Nat.reduceSub, Nat.reduceMul, Nat.reduceMod, Nat.reduceDiv, Nat.reducePow, UInt8.reduceToNat, Int.reduceEq, Int.reduceLT, Int.reduceLE, ↓reduceIte, Nat.reduceAdd, Int.reduceToNat, reduceCtorEq, Nat.reduceLeDiff, ↓Ip, Be, Ci, BR]
   refine (ArN B (by omega)).calls rfl fun r hr => ?_
   subst hr
   simp -dsimp (disch := first | assumption | omega | (simp only [Ad]; done) | (simp only [Ad]; omega)) only [↓Ah, Ae, Ag, Ai, eq_self, forall_const, Nat.reduceLT, Nat.reduceEqDiff, Nat.reduceSub, Nat.reduceMul, Nat.reduceMod, Nat.reduceDiv, Nat.reducePow, UInt8.reduceToNat, Int.reduceEq, Int.reduceLT, Int.reduceLE, ↓reduceIte, Nat.reduceAdd, Int.reduceToNat, reduceCtorEq, Nat.reduceLeDiff, ↓Ic, Be, Ci, BR]
   refine AkN.calls rfl fun r hr => ?_
   subst hr
   simp -dsimp (disch := first | assumption | omega | (simp only [Ad]; done) | (simp only [Ad]; omega)) only [↓Ah, Ae, Ag, Ai, eq_self, forall_const, Nat.reduceLT, Nat.reduceEqDiff, Nat.reduceSub, Nat.reduceMul, Nat.reduceMod, Nat.reduceDiv, Nat.reducePow, UInt8.reduceToNat, Int.reduceEq, Int.reduceLT, Int.reduceLE, ↓reduceIte, Nat.reduceAdd, Int.reduceToNat, reduceCtorEq, Nat.reduceLeDiff]
   refine AkN.calls rfl fun r hr => ?_
   subst hr
   simp -dsimp (disch := first | assumption | omega | (simp only [Ad]; done) | (simp only [Ad]; omega)) only [↓Ah, Ae, Ag, Ai, eq_self, forall_const, Nat.reduceLT, Nat.reduceEqDiff, Nat.reduceSub, Nat.reduceMul, Nat.reduceMod, Nat.reduceDiv, Nat.reducePow, UInt8.reduceToNat, Int.reduceEq, Int.reduceLT, Int.reduceLE, ↓reduceIte, Nat.reduceAdd, Int.reduceToNat, reduceCtorEq, Nat.reduceLeDiff, ↓Ig]
   refine AkN.calls rfl fun r hr => ?_
   subst hr
   simp -dsimp (disch := first | assumption | omega | (simp only [Ad]; done) | (simp only [Ad]; omega)) only [↓Ah, Ae, Ag, Ai, eq_self, forall_const, Nat.reduceLT, Nat.reduceEqDiff, Nat.reduceSub, Nat.reduceMul, Nat.reduceMod, Nat.reduceDiv, Nat.reducePow, UInt8.reduceToNat, Int.reduceEq, Int.reduceLT, Int.reduceLE, ↓reduceIte, Nat.reduceAdd, Int.reduceToNat, reduceCtorEq, Nat.reduceLeDiff, ↓Qk, Be, Ci, BR, AdF, KW, DU]
   refine ((Amo l (by omega) hp' h20 [a, b] [] (by simp) (by simp)).argL (.cons AdI.refl (.cons AdI.refl (.cons Aem .nil)))).lends (args' := [.sl 22 (l.map ndT), .sl 20 ([a, b].map idT), .val (.slice none 0 0)]) (by simp -dsimp (disch := first | assumption | omega | (simp only [Ad]; done) | (simp only [Ad]; omega)) only [↓Ah, Ae, Ag, Ai, eq_self, forall_const, Nat.reduceLT, Nat.reduceEqDiff, Nat.reduceSub, Nat.reduceMul, Nat.reduceMod, Nat.reduceDiv, Nat.reducePow, UInt8.reduceToNat, Int.reduceEq, Int.reduceLT, Int.reduceLE, ↓reduceIte, Nat.reduceAdd, Int.reduceToNat, reduceCtorEq, Nat.reduceLeDiff]) fun r hr => ?_
   obtain ⟨ids, rfl, ho, hol⟩ := hr.1 (by simpa using hok)
   have hne := Akj hok.1 (a := a) (by simp) hal ho
   have hnl : ids.length ≠ 0 := fun h => hne (List.length_eq_zero_iff.1 h)
   simp -dsimp (disch := first | assumption | omega | (simp only [Ad]; done) | (simp only [Ad]; omega)) only [↓Ah, Ae, Ag, Ai, eq_self, forall_const, Nat.reduceLT, Nat.reduceEqDiff, Nat.reduceSub, Nat.reduceMul, Nat.reduceMod, Nat.reduceDiv, Nat.reducePow, UInt8.reduceToNat, Int.reduceEq, Int.reduceLT, Int.reduceLE, ↓reduceIte, Nat.reduceAdd, Int.reduceToNat, reduceCtorEq, Nat.reduceLeDiff, ↓PU, Be, Ci, BR, KW, DU]
   refine (AdW l (by omega) hp' a a).calls (by simp [BV, DU]; rfl) fun r hr => ?_
   have e1 := hr.1 ⟨hok.1, by have := hok.2; simp at this ⊢; exact this.1⟩
   have e2 : dec (Rc l [a] a) = true := EN.2 (.base (by simp))
   rw [e2] at e1
   subst e1
   simp -dsimp (disch := first | assumption | omega | (simp only [Ad]; done) | (simp only [Ad]; omega)) only [↓Ah, Ae, Ag, Ai, eq_self, forall_const, Nat.reduceLT, Nat.reduceEqDiff, Nat.reduceSub, Nat.reduceMul, Nat.reduceMod, Nat.reduceDiv, Nat.reducePow, UInt8.reduceToNat, Int.reduceEq, Int.reduceLT, Int.reduceLE, ↓reduceIte, Nat.reduceAdd, Int.reduceToNat, reduceCtorEq, Nat.reduceLeDiff, ↓Qm, Be, Ci, BR, KW, DU]
   refine AkN.calls rfl fun r hr => ?_
   subst hr
   simp -dsimp (disch := first | assumption | omega | (simp only [Ad]; done) | (simp only [Ad]; omega)) only [↓Ah, Ae, Ag, Ai, eq_self, forall_const, Nat.reduceLT, Nat.reduceEqDiff, Nat.reduceSub, Nat.reduceMul, Nat.reduceMod, Nat.reduceDiv, Nat.reducePow, UInt8.reduceToNat, Int.reduceEq, Int.reduceLT, Int.reduceLE, ↓reduceIte, Nat.reduceAdd, Int.reduceToNat, reduceCtorEq, Nat.reduceLeDiff, ↓Qa, ↓Ql]
   refine BN (fun m e H => ∃ i : Nat, m = l.length - i ∧ i ≤ l.length ∧ e = [(0, .sl 22 (l.map ndT)), (4, .op 0 0 []), (5, .op 1 0 []), (8, .sl 20 (B.map idT)), (18, i64 (i : Int))] ∧ H = [.obj 0 (idT a), .obj 0 (idT b), .obj 0 (.arr 2 20 [idT a, idT b])]) l.length ?_ ?_
   ·exact ⟨0, by simp, by simp, by simp [forget, get], rfl⟩
   ·rintro m e H ⟨i, rfl, hi, rfl, rfl⟩
    by_cases h : i < l.length
    ·have hg : l[i]? = some l[i] := List.getElem?_eq_getElem h
     have hnl : l[i] ∈ l := List.getElem_mem h
     generalize l[i] = n at *
     have hni : n.id ∈ AL l := VL hnl
     simp -dsimp (disch := first | assumption | omega | (simp only [Ad]; done) | (simp only [Ad]; omega)) only [↓Ah, Ae, Ag, Ai, eq_self, forall_const, Nat.reduceLT, Nat.reduceEqDiff, Nat.reduceSub, Nat.reduceMul, Nat.reduceMod, Nat.reduceDiv, Nat.reducePow, UInt8.reduceToNat, Int.reduceEq, Int.reduceLT, Int.reduceLE, ↓reduceIte, Nat.reduceAdd, Int.reduceToNat, reduceCtorEq, Nat.reduceLeDiff, ↓Hy, ↓PM, ↓RH]
     refine BN (fun m e H => ∃ j : Nat, m = n.ps.length - j ∧ j ≤ n.ps.length ∧ e = [(0, .sl 22 (l.map ndT)), (4, .op 0 0 []), (5, .op 1 0 []), (8, .sl 20 (B.map idT)), (18, i64 (i : Int)), (19, i64 (j : Int))] ∧ H = [.obj 0 (idT a), .obj 0 (idT b), .obj 0 (.arr 2 20 [idT a, idT b])]) n.ps.length ?_ ?_
     ·exact ⟨0, by simp, by simp, by simp [forget, get], rfl⟩
     ·rintro m e H ⟨j, rfl, hj, rfl, rfl⟩
      have hpl := hp n hnl
      by_cases h2 : j < n.ps.length
      ·have hg2 : n.ps[j]? = some n.ps[j] := List.getElem?_eq_getElem h2
       have hpm : n.ps[j] ∈ n.ps := List.getElem_mem h2
       generalize n.ps[j] = q at *
       simp -dsimp (disch := first | assumption | omega | (simp only [Ad]; done) | (simp only [Ad]; omega)) only [↓Ah, Ae, Ag, Ai, eq_self, forall_const, Nat.reduceLT, Nat.reduceEqDiff, Nat.reduceSub, Nat.reduceMul, Nat.reduceMod, Nat.reduceDiv, Nat.reducePow, UInt8.reduceToNat, Int.reduceEq, Int.reduceLT, Int.reduceLE, ↓reduceIte, Nat.reduceAdd, Int.reduceToNat, reduceCtorEq, Nat.reduceLeDiff, ↓I8, ↓Ru, hg, Bf, hg2, Be, Ci, BR, KW, DU]
       refine ⟨_, (Aqa hok.1 (by omega) hp' hni (hok.1.1.there n hnl q hpm)).calls Ahg fun r hr => ⟨hr, rfl⟩, ?_⟩
       have e1 : dec (Rc l [n.id] q) = true := EN.2 (.step (x := n.id) (.base (by simp)) (by rw [Xm hok.1.1.nodup hnl]; exact hpm))
       simp -dsimp (disch := first | assumption | omega | (simp only [Ad]; done) | (simp only [Ad]; omega)) only [↓Ah, Ae, Ag, Ai, eq_self, forall_const, Nat.reduceLT, Nat.reduceEqDiff, Nat.reduceSub, Nat.reduceMul, Nat.reduceMod, Nat.reduceDiv, Nat.reducePow, UInt8.reduceToNat, Int.reduceEq, Int.reduceLT, Int.reduceLE, ↓reduceIte, Nat.reduceAdd, Int.reduceToNat, reduceCtorEq, Nat.reduceLeDiff, e1, ↓CZ]
       exact AY (n.ps.length - (j + 1)) (by omega) (by simp) ⟨j + 1, rfl, by omega, by simp [forget, get], rfl⟩
      ·simp -dsimp (disch := first | assumption | omega | (simp only [Ad]; done) | (simp only [Ad]; omega)) only [↓Ah, Ae, Ag, Ai, eq_self, forall_const, Nat.reduceLT, Nat.reduceEqDiff, Nat.reduceSub, Nat.reduceMul, Nat.reduceMod, Nat.reduceDiv, Nat.reducePow, UInt8.reduceToNat, Int.reduceEq, Int.reduceLT, Int.reduceLE, ↓reduceIte, Nat.reduceAdd, Int.reduceToNat, reduceCtorEq, Nat.reduceLeDiff, ↓I8, ↓Qg, hg, Bf, Be, Ci, BR, KW, DU]
       refine ⟨_, (Aqa hok.1 (by omega) hp' hal hni).calls Ahg fun r hr => ⟨hr, rfl⟩, ?_⟩
       simp -dsimp (disch := first | assumption | omega | (simp only [Ad]; done) | (simp only [Ad]; omega)) only [↓Ah, Ae, Ag, Ai, eq_self, forall_const, Nat.reduceLT, Nat.reduceEqDiff, Nat.reduceSub, Nat.reduceMul, Nat.reduceMod, Nat.reduceDiv, Nat.reducePow, UInt8.reduceToNat, Int.reduceEq, Int.reduceLT, Int.reduceLE, ↓reduceIte, Nat.reduceAdd, Int.reduceToNat, reduceCtorEq, Nat.reduceLeDiff, ↓P8, hg, Bf, Be, Ci, BR, KW, DU]
       refine ⟨_, (Aqa hok.1 (by omega) hp' hbl hni).calls Ahg fun r hr => ⟨hr, rfl⟩, ?_⟩
       have hc := hst n.id
       have hbe := hbel n.id
       rw [← EN (p := Rc l [a] n.id), ← EN (p := Rc l [b] n.id)] at hc
       generalize dec (Rc l [a] n.id) = c at *
       generalize dec (Rc l [b] n.id) = d at *
       simp -dsimp (disch := first | assumption | omega | (simp only [Ad]; done) | (simp only [Ad]; omega)) only [↓Ah, Ae, Ag, Ai, eq_self, forall_const, Nat.reduceLT, Nat.reduceEqDiff, Nat.reduceSub, Nat.reduceMul, Nat.reduceMod, Nat.reduceDiv, Nat.reducePow, UInt8.reduceToNat, Int.reduceEq, Int.reduceLT, Int.reduceLE, ↓reduceIte, Nat.reduceAdd, Int.reduceToNat, reduceCtorEq, Nat.reduceLeDiff, ↓PI, ↓PK, ↓Qb]
       refine BN (fun m e H => ∃ k : Nat, m = B.length - k ∧ k ≤ B.length ∧ e = [(0, .sl 22 (l.map ndT)), (4, .op 0 0 []), (5, .op 1 0 []), (8, .sl 20 (B.map idT)), (18, i64 (i : Int)), (22, tb c), (24, tb d), (26, tb ((B.take k).any fun z => dec (Rc l [z] n.id))), (27, i64 (k : Int))] ∧ H = [.obj 0 (idT a), .obj 0 (idT b), .obj 0 (.arr 2 20 [idT a, idT b])]) B.length ?_ ?_
       ·exact ⟨0, by simp, by simp, by simp [forget, get], rfl⟩
       ·rintro m e H ⟨k, rfl, hk, rfl, rfl⟩
        by_cases h3 : k < B.length
        ·have hg3 : B[k]? = some B[k] := List.getElem?_eq_getElem h3
         have hxm : B[k] ∈ B := List.getElem_mem h3
         have htk := List.take_succ_eq_append_getElem h3
         generalize B[k] = x at *
         have hxt := hbs x hxm
         have hxl := htl x hxt
         have hab : (B.take (k + 1)).any (fun z => dec (Rc l [z] n.id)) = ((B.take k).any (fun z => dec (Rc l [z] n.id)) || dec (Rc l [x] n.id)) := by rw [htk, List.any_append]; simp
         simp -dsimp (disch := first | assumption | omega | (simp only [Ad]; done) | (simp only [Ad]; omega)) only [↓Ah, Ae, Ag, Ai, eq_self, forall_const, Nat.reduceLT, Nat.reduceEqDiff, Nat.reduceSub, Nat.reduceMul, Nat.reduceMod, Nat.reduceDiv, Nat.reducePow, UInt8.reduceToNat, Int.reduceEq, Int.reduceLT, Int.reduceLE, ↓reduceIte, Nat.reduceAdd, Int.reduceToNat, reduceCtorEq, Nat.reduceLeDiff, ↓I5]
         refine AjS hok.1 (by omega) hp' (by omega) (by omega) (by omega) hg hg3 hni hxl (fun e => hc.1 (by rw [← e]; exact hxt)) (fun hne hr h1 h2 => hbu x hxm n.id (hc.2 ⟨h1, h2⟩) (Ne.symm hne) (EN.1 hr)) ?_
         exact AY (B.length - (k + 1)) (by omega) (by simp) ⟨k + 1, rfl, by omega, by rw [hab]; simp [forget, get], rfl⟩
        ·have hk2 : k = B.length := by omega
         subst hk2
         rw [List.take_length]
         have hbq : ∀ t : Bool, (t == t) = true := fun t => by cases t <;> rfl
         cases c <;> cases d <;> (
          simp only [Bool.and_true, Bool.and_false] at hbe
          rw [hbe]
          simp -dsimp (disch := first | assumption | omega | (simp only [Ad]; done) | (simp only [Ad]; omega)) only [↓Ah, Ae, Ag, Ai, eq_self, forall_const, Nat.reduceLT, Nat.reduceEqDiff, Nat.reduceSub, Nat.reduceMul, Nat.reduceMod, Nat.reduceDiv, Nat.reducePow, UInt8.reduceToNat, Int.reduceEq, Int.reduceLT, Int.reduceLE, ↓reduceIte, Nat.reduceAdd, Int.reduceToNat, reduceCtorEq, Nat.reduceLeDiff, ↓I5, ↓PZ, ↓Pz, hbq]
          exact AY (l.length - (i + 1)) (by omega) (by simp) ⟨i + 1, rfl, by omega, by simp [forget, get], rfl⟩)
    ·simp -dsimp (disch := first | assumption | omega | (simp only [Ad]; done) | (simp only [Ad]; omega)) only [↓Ah, Ae, Ag, Ai, eq_self, forall_const, Nat.reduceLT, Nat.reduceEqDiff, Nat.reduceSub, Nat.reduceMul, Nat.reduceMod, Nat.reduceDiv, Nat.reducePow, UInt8.reduceToNat, Int.reduceEq, Int.reduceLT, Int.reduceLE, ↓reduceIte, Nat.reduceAdd, Int.reduceToNat, reduceCtorEq, Nat.reduceLeDiff, ↓Hy, ↓PD, ↓CZ]
     done
  ·have hok2 : ¬ Abd l [b, a] := fun h => hok ⟨h.1, by have := h.2; simp at this ⊢; exact ⟨this.2, this.1⟩⟩
   rw [hr.2 hok]
   simp -dsimp (disch := first | assumption | omega | (simp only [Ad]; done) | (simp only [Ad]; omega)) only [↓Ah, Ae, Ag, Ai, eq_self, forall_const, Nat.reduceLT, Nat.reduceEqDiff, Nat.reduceSub, Nat.reduceMul, Nat.reduceMod, Nat.reduceDiv, Nat.reducePow, UInt8.reduceToNat, Int.reduceEq, Int.reduceLT, Int.reduceLE, ↓reduceIte, Nat.reduceAdd, Int.reduceToNat, reduceCtorEq, Nat.reduceLeDiff, ↓Il, Be, Ci, BR]
   refine (Ac0 l (by omega) hp' b a).calls (by simp [BV, DU]; rfl) fun r hr => ?_
   rw [hr.2 hok2]
   simp -dsimp (disch := first | assumption | omega | (simp only [Ad]; done) | (simp only [Ad]; omega)) only [↓Ah, Ae, Ag, Ai, eq_self, forall_const, Nat.reduceLT, Nat.reduceEqDiff, Nat.reduceSub, Nat.reduceMul, Nat.reduceMod, Nat.reduceDiv, Nat.reducePow, UInt8.reduceToNat, Int.reduceEq, Int.reduceLT, Int.reduceLE, ↓reduceIte, Nat.reduceAdd, Int.reduceToNat, reduceCtorEq, Nat.reduceLeDiff, ↓H6, Be, Ci, BR]
   refine ApE.calls rfl fun r hr => ?_
   subst hr
   simp -dsimp (disch := first | assumption | omega | (simp only [Ad]; done) | (simp only [Ad]; omega)) only [↓Ah, Ae, Ag, Ai, eq_self, forall_const, Nat.reduceLT, Nat.reduceEqDiff, Nat.reduceSub, Nat.reduceMul, Nat.reduceMod, Nat.reduceDiv, Nat.reducePow, UInt8.reduceToNat, Int.reduceEq, Int.reduceLT, Int.reduceLE, ↓reduceIte, Nat.reduceAdd, Int.reduceToNat, reduceCtorEq, Nat.reduceLeDiff, ↓Ip, Be, Ci, BR]
   refine Aqr.calls rfl fun r hr => ?_
   subst hr
   simp -dsimp (disch := first | assumption | omega | (simp only [Ad]; done) | (simp only [Ad]; omega)) only [↓Ah, Ae, Ag, Ai, eq_self, forall_const, Nat.reduceLT, Nat.reduceEqDiff, Nat.reduceSub, Nat.reduceMul, Nat.reduceMod, Nat.reduceDiv, Nat.reducePow, UInt8.reduceToNat, Int.reduceEq, Int.reduceLT, Int.reduceLE, ↓reduceIte, Nat.reduceAdd, Int.reduceToNat, reduceCtorEq, Nat.reduceLeDiff, ↓Ic, Be, Ci, BR]
   refine Aq0.calls rfl fun r hr => ?_
   subst hr
   simp -dsimp (disch := first | assumption | omega | (simp only [Ad]; done) | (simp only [Ad]; omega)) only [↓Ah, Ae, Ag, Ai, eq_self, forall_const, Nat.reduceLT, Nat.reduceEqDiff, Nat.reduceSub, Nat.reduceMul, Nat.reduceMod, Nat.reduceDiv, Nat.reducePow, UInt8.reduceToNat, Int.reduceEq, Int.reduceLT, Int.reduceLE, ↓reduceIte, Nat.reduceAdd, Int.reduceToNat, reduceCtorEq, Nat.reduceLeDiff]
   refine Aq0.calls rfl fun r hr => ?_
   subst hr
   simp -dsimp (disch := first | assumption | omega | (simp only [Ad]; done) | (simp only [Ad]; omega)) only [↓Ah, Ae, Ag, Ai, eq_self, forall_const, Nat.reduceLT, Nat.reduceEqDiff, Nat.reduceSub, Nat.reduceMul, Nat.reduceMod, Nat.reduceDiv, Nat.reducePow, UInt8.reduceToNat, Int.reduceEq, Int.reduceLT, Int.reduceLE, ↓reduceIte, Nat.reduceAdd, Int.reduceToNat, reduceCtorEq, Nat.reduceLeDiff, ↓Ig]
   refine Aq0.calls rfl fun r hr => ?_
   subst hr
   simp -dsimp (disch := first | assumption | omega | (simp only [Ad]; done) | (simp only [Ad]; omega)) only [↓Ah, Ae, Ag, Ai, eq_self, forall_const, Nat.reduceLT, Nat.reduceEqDiff, Nat.reduceSub, Nat.reduceMul, Nat.reduceMod, Nat.reduceDiv, Nat.reducePow, UInt8.reduceToNat, Int.reduceEq, Int.reduceLT, Int.reduceLE, ↓reduceIte, Nat.reduceAdd, Int.reduceToNat, reduceCtorEq, Nat.reduceLeDiff, ↓Rw]
   refine Aq0.calls rfl fun r hr => ?_
   subst hr
   simp -dsimp (disch := first | assumption | omega | (simp only [Ad]; done) | (simp only [Ad]; omega)) only [↓Ah, Ae, Ag, Ai, eq_self, forall_const, Nat.reduceLT, Nat.reduceEqDiff, Nat.reduceSub, Nat.reduceMul, Nat.reduceMod, Nat.reduceDiv, Nat.reducePow, UInt8.reduceToNat, Int.reduceEq, Int.reduceLT, Int.reduceLE, ↓reduceIte, Nat.reduceAdd, Int.reduceToNat, reduceCtorEq, Nat.reduceLeDiff, ↓CZ]
end Go.Proofs.YtingoaihnlhiaaaDoor


namespace Go.Proofs.YtingoaihnlhiaaaDoor.graphMeets
open Go.ChangeShapes Go.WideShapes Go.ChangeAt Go.RowKit
set_option linter.unusedVariables false

theorem own : ownKnob Tryd.prog.godebug = none := by kernel_rfl
instance gi : Bc := ⟨[(0, C9)], by kernel_rfl⟩
instance : BX := ⟨by kernel_rfl⟩
theorem et : Tryd.prog.globalNamed "errors.errorType" = some 0 := by kernel_rfl
theorem rt : (Tryd.prog.cutTypes.find? (·.1 == "internal/reflectlite.rtype")).map (·.2) = some 118 := by kernel_rfl
theorem Ap7 : ((List.range Tryd.prog.types.size).filter fun t => Tryd.prog.rowNamed t [101, 114, 114, 111, 114]) = [26] := by kernel_rfl
theorem Aal {W : World} (h : handlesMet Tryd.prog [("errors.errorType", Rows.laid_errors_errorType)] W) : ∃ t fr, W.heap[0]? = some (.cells C9.cells.toArray t fr) := by
 obtain ⟨name, u, ty, e1, e2, e3, e4, e5⟩ := h _ (List.mem_singleton.2 rfl)
 have en : name = [101, 114, 114, 111, 114] := (Option.some.inj e1).symm
 subst en
 obtain rfl := Option.some.inj (rt.symm.trans e2)
 have hm : ty ∈ (List.range Tryd.prog.types.size).filter fun t => Tryd.prog.rowNamed t [101, 114, 114, 111, 114] := List.mem_filter.2 ⟨List.mem_range.2 e3, e4⟩
 rw [Ap7] at hm
 obtain rfl := List.mem_singleton.1 hm
 have hh : typeHandle Tryd.prog 26 = .pointer (some ⟨2, 26, none⟩) := by kernel_rfl
 rw [hh] at e5
 exact AnR et e5
theorem Ab7 {W : World} (h : laidMetH Tryd.prog Rows.graphMeetsRow.laid W) : MZ (fun b => b < W.heap.size) W := by
 intro g x hx
 have hm := AeG hx
 have h' : laidMet Tryd.prog [] W ∧ handlesMet Tryd.prog [("errors.errorType", Rows.laid_errors_errorType)] W := h
 have hm' : (g, x) ∈ ([(0, C9)] : List (Nat × GV)) := hm
 simp only [List.mem_cons, List.mem_nil_iff, or_false, Prod.mk.injEq] at hm'
 have key : ∃ t fr, W.heap[g]? = some (.cells x.cells.toArray t fr) := by
  rcases hm' with ⟨rfl, rfl⟩
  ·exact Aal h'.2
 obtain ⟨t, fr, hk⟩ := key
 exact ⟨(Array.getElem?_eq_some_iff.1 hk).1, t, fr, hk⟩
noncomputable def Acf (os : Os) : World :=
 let w0 := World.holding Tryd.prog os ⟨#[], #[.slice none 0 0, .agg #[.int .u8 0, .int .u8 0, .int .u8 0, .int .u8 0, .int .u8 0, .int .u8 0, .int .u8 0, .int .u8 0, .int .u8 0, .int .u8 0, .int .u8 0, .int .u8 0, .int .u8 0, .int .u8 0, .int .u8 0, .int .u8 0, .int .u8 0, .int .u8 0, .int .u8 0, .int .u8 0], .agg #[.int .u8 0, .int .u8 0, .int .u8 0, .int .u8 0, .int .u8 0, .int .u8 0, .int .u8 0, .int .u8 0, .int .u8 0, .int .u8 0, .int .u8 0, .int .u8 0, .int .u8 0, .int .u8 0, .int .u8 0, .int .u8 0, .int .u8 0, .int .u8 0, .int .u8 0, .int .u8 0]], []⟩
 let w1 := { w0 with heap := w0.heap.modify 0 fun
   | .cells _ t frozen => .cells C9.cells.toArray t frozen
   | o => o }
 w1
theorem Abw (os : Os) (args : Array Value) : laidMetH Tryd.prog Rows.graphMeetsRow.laid ((Acf os).forCall (fun _ _ => 0) ⟨#[], args, []⟩).memory :=
 laidMetH_of_parts (laidMet_nil _ _) (by kernel_rfl)

theorem Amr : laidOutB Tryd.prog = true ∧ mapsRowed Tryd.prog = true :=
 have H := ClosedOfChecked.allSpec_of Tryd.checked.wellFormed (by kernel_rfl : Tryd.checked.prog.types = Tryd.checked.src.types)
 ⟨ClosedOfChecked.laidOutB_of H (by kernel_rfl), ClosedOfChecked.mapsRowed_of H⟩
theorem GH {a b : Bool} (h : a = true) (k : b = true) : (a && b) = true := by rw [h, k]; rfl
theorem A2y : (Rows.graphMeetsRow.wf (OpenSpec.ofChange Rows.graphMeetsSpec)) = true := by kernel_rfl
theorem Ar0 : (laidOutB Tryd.prog) = true := Amr.1
theorem A2s : (mapsRowed Tryd.prog) = true := Amr.2
theorem A2d : (Tryd.f5.params.all (Tryd.prog.readableRec ·)) = true := by kernel_rfl
theorem ArO : (namedTie Tryd.prog Rows.graphMeetsRow.named Rows.graphMeetsSpec.vars) = true := by kernel_rfl
theorem Arf : ((Rows.graphMeetsRow.stops == [])) = true := by kernel_rfl
theorem Asr : ((Tryd.prog.stops == [])) = true := by kernel_rfl
theorem A1X : ((Rows.graphMeetsRow.knobs == [])) = true := by kernel_rfl
theorem Asj : ((Tryd.prog.stopKnobs == [])) = true := by kernel_rfl
theorem A13 : ((Rows.graphMeetsRow.inPlace == Tryd.prog.inPlace 5)) = true := by kernel_rfl
theorem AoW : ((Rows.graphMeetsRow.unfollowed == Tryd.prog.unfollowed 5)) = true := by kernel_rfl
theorem ApG : ((Rows.graphMeetsRow.recurses == Tryd.prog.recurses 5)) = true := by kernel_rfl
theorem Aqb : ((Rows.graphMeetsRow.named == Tryd.prog.varsNamed 5)) = true := by kernel_rfl
theorem Apq : ((Rows.graphMeetsRow.maps == (Tryd.f5.params.toList ++ Rows.graphMeetsSpec.plain.varTypes Tryd.prog).any (Tryd.prog.mapsRec ·))) = true := by kernel_rfl
theorem AoO : ((Rows.graphMeetsRow.ifaces == (Tryd.f5.params.toList ++ Rows.graphMeetsSpec.plain.varTypes Tryd.prog).any (Tryd.prog.ifacesRec ·))) = true := by kernel_rfl
theorem AoQ : ((Rows.graphMeetsRow.mapsOut == Tryd.prog.mapsAmong Tryd.f5.resultTypes.toList)) = true := by kernel_rfl
theorem ApN : ((Rows.graphMeetsRow.loops == (Tryd.f5.params.toList ++ Rows.graphMeetsSpec.plain.varTypes Tryd.prog).any (Tryd.prog.loopsFrom ·))) = true := by kernel_rfl
theorem AoG : ((Rows.graphMeetsRow.wideKeys == (Tryd.f5.params.toList ++ Rows.graphMeetsSpec.plain.varTypes Tryd.prog ++ Tryd.f5.resultTypes.toList).any (Tryd.prog.wideKeysFrom ·))) = true := by kernel_rfl
theorem Apk : (Rows.graphMeetsSpec.vars.all (Tryd.prog.varReadable ·)) = true := by kernel_rfl
theorem Aqo : (Tryd.f5.resultTypes.all (fun t => Tryd.prog.readableRec t && decide (t < Tryd.prog.types.size))) = true := by kernel_rfl
theorem Aoj : ((Rows.graphMeetsRow.ifacesOut == Tryd.f5.resultTypes.toList.any (Tryd.prog.ifacesRec ·))) = true := by kernel_rfl
theorem Aqt : ((Rows.graphMeetsRow.loopsOut == Tryd.f5.resultTypes.toList.any (Tryd.prog.loopsFrom ·))) = true := by kernel_rfl
theorem Aqy : ((Rows.graphMeetsRow.plainKeys == Tryd.prog.plainKeys)) = true := by kernel_rfl
theorem AqA : (Rows.graphMeetsRow.shortTexts.isNone) = true := by kernel_rfl
theorem Apw : (Tryd.prog.stopsHeard) = true := by kernel_rfl
theorem AoZ : (Tryd.prog.mayEnter) = true := by kernel_rfl
theorem AoJ : ((Rows.graphMeetsRow.lifted == Tryd.prog.liftsFinal)) = true := by kernel_rfl
theorem Aoy : ((Tryd.prog.make == some Rows.graphMeetsRow.make)) = true := by kernel_rfl
theorem AoU : ((Rows.graphMeetsRow.kinds == (if Rows.graphMeetsRow.domain.isEmpty then [] else Tryd.f5.params.toList.map fun t => match Tryd.prog.underlying t with | some (.int k) => some k | _ => none))) = true := by kernel_rfl
theorem ApM : ((Rows.graphMeetsRow.pinned == Rows.graphMeetsRow.pinnedBy)) = true := by kernel_rfl
theorem Aoe : ((Rows.graphMeetsRow.veiled == (Tryd.f5.params.toList ++ Rows.graphMeetsSpec.plain.varTypes Tryd.prog ++ Tryd.f5.resultTypes.toList).any (Tryd.prog.veiledRec ·))) = true := by kernel_rfl
theorem Aoi : (Rows.graphMeetsRow.veiledFits Tryd.prog Tryd.f5.params.toList (Tryd.f5.params.toList ++ Rows.graphMeetsSpec.plain.varTypes Tryd.prog ++ Tryd.f5.resultTypes.toList)) = true := by kernel_rfl
set_option maxRecDepth 100000 in
theorem AiC : ((Rows.graphMeetsRow.wf (OpenSpec.ofChange Rows.graphMeetsSpec)) && (laidOutB Tryd.prog) && (mapsRowed Tryd.prog) && (Tryd.f5.params.all (Tryd.prog.readableRec ·)) && (namedTie Tryd.prog Rows.graphMeetsRow.named Rows.graphMeetsSpec.vars) && ((Rows.graphMeetsRow.stops == [])) && ((Tryd.prog.stops == [])) && ((Rows.graphMeetsRow.knobs == [])) && ((Tryd.prog.stopKnobs == [])) && ((Rows.graphMeetsRow.inPlace == Tryd.prog.inPlace 5)) && ((Rows.graphMeetsRow.unfollowed == Tryd.prog.unfollowed 5)) && ((Rows.graphMeetsRow.recurses == Tryd.prog.recurses 5)) && ((Rows.graphMeetsRow.named == Tryd.prog.varsNamed 5)) && ((Rows.graphMeetsRow.maps == (Tryd.f5.params.toList ++ Rows.graphMeetsSpec.plain.varTypes Tryd.prog).any (Tryd.prog.mapsRec ·))) && ((Rows.graphMeetsRow.ifaces == (Tryd.f5.params.toList ++ Rows.graphMeetsSpec.plain.varTypes Tryd.prog).any (Tryd.prog.ifacesRec ·))) && ((Rows.graphMeetsRow.mapsOut == Tryd.prog.mapsAmong Tryd.f5.resultTypes.toList)) && ((Rows.graphMeetsRow.loops == (Tryd.f5.params.toList ++ Rows.graphMeetsSpec.plain.varTypes Tryd.prog).any (Tryd.prog.loopsFrom ·))) && ((Rows.graphMeetsRow.wideKeys == (Tryd.f5.params.toList ++ Rows.graphMeetsSpec.plain.varTypes Tryd.prog ++ Tryd.f5.resultTypes.toList).any (Tryd.prog.wideKeysFrom ·))) && (Rows.graphMeetsSpec.vars.all (Tryd.prog.varReadable ·)) && (Tryd.f5.resultTypes.all (fun t => Tryd.prog.readableRec t && decide (t < Tryd.prog.types.size))) && ((Rows.graphMeetsRow.ifacesOut == Tryd.f5.resultTypes.toList.any (Tryd.prog.ifacesRec ·))) && ((Rows.graphMeetsRow.loopsOut == Tryd.f5.resultTypes.toList.any (Tryd.prog.loopsFrom ·))) && ((Rows.graphMeetsRow.plainKeys == Tryd.prog.plainKeys)) && (Rows.graphMeetsRow.shortTexts.isNone) && (Tryd.prog.stopsHeard) && (Tryd.prog.mayEnter) && ((Rows.graphMeetsRow.lifted == Tryd.prog.liftsFinal)) && ((Tryd.prog.make == some Rows.graphMeetsRow.make)) && ((Rows.graphMeetsRow.kinds == (if Rows.graphMeetsRow.domain.isEmpty then [] else Tryd.f5.params.toList.map fun t => match Tryd.prog.underlying t with | some (.int k) => some k | _ => none))) && ((Rows.graphMeetsRow.pinned == Rows.graphMeetsRow.pinnedBy)) && ((Rows.graphMeetsRow.veiled == (Tryd.f5.params.toList ++ Rows.graphMeetsSpec.plain.varTypes Tryd.prog ++ Tryd.f5.resultTypes.toList).any (Tryd.prog.veiledRec ·))) && (Rows.graphMeetsRow.veiledFits Tryd.prog Tryd.f5.params.toList (Tryd.f5.params.toList ++ Rows.graphMeetsSpec.plain.varTypes Tryd.prog ++ Tryd.f5.resultTypes.toList))) = true := (GH (GH (GH (GH (GH (GH (GH (GH (GH (GH (GH (GH (GH (GH (GH (GH (GH (GH (GH (GH (GH (GH (GH (GH (GH (GH (GH (GH (GH (GH (GH A2y Ar0) A2s) A2d) ArO) Arf) Asr) A1X) Asj) A13) AoW) ApG) Aqb) Apq) AoO) AoQ) ApN) AoG) Apk) Aqo) Aoj) Aqt) Aqy) AqA) Apw) AoZ) AoJ) Aoy) AoU) ApM) Aoe) Aoi)
set_option maxRecDepth 100000 in
theorem Adu : joinedFacts Tryd.prog 5 Tryd.f5 Rows.graphMeetsSpec Rows.graphMeetsRow = true := AiC
set_option maxRecDepth 100000 in
theorem lifted (os : Os) (started : os.Started) (H : Type) (enc : TypeId × Value → H) :
  ReturnsInHanded {} Tryd.checked os 5 .any (fun w args => (Rows.graphMeetsSpec.pre enc Tryd.prog Tryd.f5 [] false w args ∧ laidMetH Tryd.prog Rows.graphMeetsRow.laid w) ∧ sizedMet enc Tryd.prog Tryd.f5 (OpenSpec.ofChange Rows.graphMeetsSpec) false w args) (Rows.graphMeetsSpec.post enc Tryd.prog Tryd.f5 false true false false) := by
 refine returnsInHanded_of_change_and (C := Tryd.checked) (X := fun w _ => laidMetH Tryd.prog Rows.graphMeetsRow.laid w) (fun _ _ _ hh h => h.of_heap hh) own started (by kernel_rfl) Tryd.func5
  (ChangeSpec.witness_at (enc := enc) (C := Tryd.checked) (os := os) (X := fun w _ => laidMetH Tryd.prog Rows.graphMeetsRow.laid w) false (Acf os) #[.slice none 0 0, .agg #[.int .u8 0, .int .u8 0, .int .u8 0, .int .u8 0, .int .u8 0, .int .u8 0, .int .u8 0, .int .u8 0, .int .u8 0, .int .u8 0, .int .u8 0, .int .u8 0, .int .u8 0, .int .u8 0, .int .u8 0, .int .u8 0, .int .u8 0, .int .u8 0, .int .u8 0, .int .u8 0], .agg #[.int .u8 0, .int .u8 0, .int .u8 0, .int .u8 0, .int .u8 0, .int .u8 0, .int .u8 0, .int .u8 0, .int .u8 0, .int .u8 0, .int .u8 0, .int .u8 0, .int .u8 0, .int .u8 0, .int .u8 0, .int .u8 0, .int .u8 0, .int .u8 0, .int .u8 0, .int .u8 0]] 8 rfl (by kernel_rfl) (by kernel_rfl) (by kernel_rfl) (by kernel_rfl) (by kernel_rfl) (Abw os _)) ?_
 intro W base args ds gs before hval0 hW hcnd hsz0 hL _
 have hsz : (DataW.weightsEach Tryd.prog (Tryd.f5.params.toList ++ Rows.graphMeetsSpec.plain.varTypes Tryd.prog) (ds ++ gs)).all (· ≤ reachBytes) = true := hsz0
 have hval : ∀ (j : Nat) t v, Tryd.f5.params[j]? = some t → args[j]? = some v → Value.okWide Tryd.prog W .any base t v := hval0
 have hW' := hW
 obtain ⟨p, q, hA0, hV, rfl, hfz, hnd⟩ := hW
 have hA : DataW.TrodAll enc Tryd.prog W 0 (fun _ => true) true Tryd.f5.params.toList args.toList ds p := hA0
 obtain ⟨rfl, rfl⟩ := trodVars_none hV
 have hsz2 : (DataW.weightsEach Tryd.prog Tryd.f5.params.toList ds).all (· ≤ reachBytes) = true := by
  have e : Tryd.f5.params.toList ++ Rows.graphMeetsSpec.plain.varTypes Tryd.prog = Tryd.f5.params.toList := by simp [ChangeSpec.plain, Rows.graphMeetsSpec]; rfl
  rw [e, List.append_nil] at hsz; exact hsz
 have hA' := hA
 have hps : (Tryd.f5.params.toList.all fun t => Tryd.prog.readableRec t && decide (t < Tryd.prog.types.size)) = true := by kernel_rfl
 have hv2 : ∀ (j : Nat) t v, Tryd.f5.params.toList[j]? = some t → args.toList[j]? = some v → ∃ base, Value.okWide Tryd.prog W .any base t v := fun j t v h1 h2 => ⟨base, hval j t v (by rw [← Array.getElem?_toList]; exact h1) (by rw [← Array.getElem?_toList]; exact h2)⟩
 rw [Tryd.params5] at hA hsz2 hv2
 obtain ⟨dsE, hdsE⟩ : ∃ x, x = ds := ⟨_, rfl⟩
 refine (Aqh (f := 5) (NJ AcL (AbT Tryd.underlying22) (fun _ => rfl) (NJ (Xd Tryd.underlying40 (by kernel_rfl)) (YJ Tryd.underlying40) (fun _ => rfl) (NJ (Xd Tryd.underlying40 (by kernel_rfl)) (YJ Tryd.underlying40) (fun _ => rfl) Abr))) (fun a h => Aj8 a.1 a.2.1 a.2.2.1 h.1 h.2.1 h.2.2.1) hA hv2 hsz2 (Ab7 hL)).mono fun e W' ⟨he, bel⟩ => ?_
 subst he
 have hB := VS Amr.1 bel hps hA'
 have hAo := hA
 obtain ⟨v0, vs0, d0, ds0, p0, q0, ha0, hd0, hp0, h0, r0⟩ := trodAll_cons hAo
 obtain ⟨v1, vs1, d1, ds1, p1, q1, ha1, hd1, hp1, h1, r1⟩ := trodAll_cons r0
 obtain ⟨v2, vs2, d2, ds2, p2, q2, ha2, hd2, hp2, h2, r2⟩ := trodAll_cons r1
 obtain ⟨hz1, hz2, hz3⟩ := trodAll_nil r2
 have hd : ds = [d0, d1, d2] := by rw [hd0, hd1, hd2, hz2]
 subst hd
 exact ⟨_, rfl, _, _, _, [], _, [], hW', trodAll_mk1 (shut_bool Tryd.underlying4 _), hB, rfl, bel.frame _, fun h => by cases h⟩

theorem over : Rows.graphMeetsRow.holds Tryd.pinned (OpenSpec.ofChange Rows.graphMeetsSpec) :=
 OpenClaim.holds_of_wide 5 Tryd.f5 rfl rfl rfl rfl rfl rfl rfl ⟨rfl, rfl, rfl, rfl, rfl⟩ rfl rfl rfl rfl rfl (by kernel_rfl) Tryd.func5 Adu
  (of_decide_eq_true (by kernel_rfl)) (by unfold Func.isWrapper; first | (rw [if_pos (by decide +kernel)]; kernel_rfl) | (rw [if_neg (by decide +kernel)]; exact ⟨rfl, rfl⟩))
  (fun os started H enc _ => lifted os started H enc)
theorem stands : (Tryd.f5.params.toList.all fun t => !Tryd.prog.wantsStandIn t) = true := by kernel_rfl
theorem proved : Rows.GraphMeetsCardSaid :=
 Claim7.holds_tied_plain_at .later [] [.handle] true (true, "39e33661b3df449857456570c2a248c47def025802fa2ecef979a36e033f17ae") true
  over (fun _ h => by cases h) (by kernel_rfl) (fun _ h => by cases h) graphMeets_row_tie rfl ⟨rfl, rfl⟩ (by kernel_rfl) rfl
  (fun f fn hf hfn => by
   obtain rfl : f = 5 := (Option.some.inj ((show Tryd.prog.funcNamed "gitlike/gitlikelaw9.GraphMeets" = some 5 by kernel_rfl).symm.trans hf)).symm
   obtain rfl : fn = Tryd.f5 := (Option.some.inj (Tryd.func5.symm.trans hfn)).symm
   exact ⟨by kernel_rfl, fun j t ht => by
    rw [← Array.getElem?_toList] at ht
    have := List.all_eq_true.1 stands t (List.mem_of_getElem? ht)
    exact (show Tryd.prog.wantsStandIn t = false by simpa using this)⟩)
  (by kernel_rfl)
#print axioms proved
end Go.Proofs.YtingoaihnlhiaaaDoor.graphMeets

