/- GraphMeetsCard: the law, proved out of contracts of the functions that it reaches (texts merged; names shortened by a program). No condition is laid on it. -/
import Derived.Test.YtingoaihnlhiaaaDoorQF
import Derived.SevenTiedAt
import Derived.Test.YtingoaihnlhiaaaDoorCards
import Derived.Test.YtingoaihnlhiaaaDoorTie
import Derived.Test.YtingoaihnlhiaaaDoorRows
import Derived.Test.YtingoaihnlhiaaaDoorProg
import Derived.WalkKit
import Derived.ProofKit
import Derived.OpenShut
import Derived.ShutString
import Derived.ChangeOld
import Derived.Below
import Derived.SizedLaws
import Derived.ChangeVars
import Derived.LaidLaws
import Derived.LaidHandle
import Derived.Stop.Joined
import Derived.ClosedOfChecked
import Derived.Test.YtingoaihnlhiaaaDoorQD
namespace Go.Proofs.YtingoaihnlhiaaaDoor
open Go.RowKit
variable [Atj] [AtY]
set_option linter.unusedSectionVars false
set_option linter.unusedVariables false
set_option linter.unusedSimpArgs false

theorem Az2.argL {P : Program} {f : FuncId} {args args' : List TV} {R : TV → Prop} (h : Az2 P f args' R) (hc : AHi args args') : Az2 P f args R :=
 fun β F w vs hF hv => h β F w vs hF (hc.rep hv)
theorem AY9 : Awi Tryd.prog 9 [.val (.slice none 0 0)] (fun r => r = .sl 20 []) := by
 refine AsZ.toPureV (AGb (by simp) ?_)
 simp -dsimp (disch := first | assumption | omega | (simp only [AsO]; done) | (simp only [AsO]; omega)) only [↓AsU, AsP, AsT, AsR, eq_self, forall_const, Nat.reduceLT, Nat.reduceEqDiff, Nat.reduceSub, Nat.reduceMul, Nat.reduceMod, Nat.reduceDiv, Nat.reducePow, UInt8.reduceToNat, Int.reduceEq, Int.reduceLT, Int.reduceLE, ↓reduceIte, Nat.reduceAdd, Int.reduceToNat, reduceCtorEq, Nat.reduceLeDiff, ↓Aym]
 refine AtO (fun q e H => e = [(0, .val (.slice none 0 0)), (3, .os 20 0 0 [] 0 0 0), (4, i64 ((0 : Nat) : Int))] ∧ H = [.obj 0 (.arr 0 20 [])]) 0 ?_ ?_
 ·exact ⟨by simp [forget, get], rfl⟩
 ·rintro q e H ⟨rfl, rfl⟩
  simp -dsimp (disch := first | assumption | omega | (simp only [AsO]; done) | (simp only [AsO]; omega)) only [↓AsU, AsP, AsT, AsR, eq_self, forall_const, Nat.reduceLT, Nat.reduceEqDiff, Nat.reduceSub, Nat.reduceMul, Nat.reduceMod, Nat.reduceDiv, Nat.reducePow, UInt8.reduceToNat, Int.reduceEq, Int.reduceLT, Int.reduceLE, ↓reduceIte, Nat.reduceAdd, Int.reduceToNat, reduceCtorEq, Nat.reduceLeDiff, ↓Aym]
theorem AY2 : Awi Tryd.prog 11 [.val (.slice none 0 0), .sl 20 []] (fun r => r = tb true) := by
 refine AsZ.toPureV (AHT (by simp) ?_)
 simp -dsimp (disch := first | assumption | omega | (simp only [AsO]; done) | (simp only [AsO]; omega)) only [↓AsU, AsP, AsT, AsR, eq_self, forall_const, Nat.reduceLT, Nat.reduceEqDiff, Nat.reduceSub, Nat.reduceMul, Nat.reduceMod, Nat.reduceDiv, Nat.reducePow, UInt8.reduceToNat, Int.reduceEq, Int.reduceLT, Int.reduceLE, ↓reduceIte, Nat.reduceAdd, Int.reduceToNat, reduceCtorEq, Nat.reduceLeDiff, ↓Azt]
 refine AtO (fun q e H => e = [(0, .val (.slice none 0 0)), (1, .sl 20 []), (5, i64 ((0 : Nat) : Int))] ∧ H = []) 0 ?_ ?_
 ·exact ⟨by simp [forget, get], rfl⟩
 ·rintro q e H ⟨rfl, rfl⟩
  simp -dsimp (disch := first | assumption | omega | (simp only [AsO]; done) | (simp only [AsO]; omega)) only [↓AsU, AsP, AsT, AsR, eq_self, forall_const, Nat.reduceLT, Nat.reduceEqDiff, Nat.reduceSub, Nat.reduceMul, Nat.reduceMod, Nat.reduceDiv, Nat.reducePow, UInt8.reduceToNat, Int.reduceEq, Int.reduceLT, Int.reduceLE, ↓reduceIte, Nat.reduceAdd, Int.reduceToNat, reduceCtorEq, Nat.reduceLeDiff, ↓Azt]
theorem AQg {l : List Nd} {x y : List UInt8} : AtX [.sl 22 (l.map ndT), .arr 20 1 (x.map by8), .arr 20 1 (y.map by8)] = true := by
 rw [← As9, ← As9]; simp [AtX, AuY]; rfl
theorem AZD {l : List Nd} (hok : GOk l) (hl : l.length ≤ 1000) (hp : ∀ n ∈ l, n.ps.length ≤ 1000) {x y : List UInt8} (hx : x ∈ As7 l) (hy : y ∈ As7 l) : Awi Tryd.prog 13 [.sl 22 (l.map ndT), .arr 20 1 (x.map by8), .arr 20 1 (y.map by8)] (fun r => r = .tup [tb (dec (Rc l [x] y)), .val .nilIface]) := by
 rw [← As9, ← As9]
 exact (ANm l hl hp x y).mono fun r hr => hr.1 ⟨hok, by simp [AzX, hx, hy]⟩
theorem ATL {l : List Nd} {a b : List UInt8} {B : List (List UInt8)} {i k : Nat} (hi : i < l.length) (hk : k < B.length) {n : Nd} {x : List UInt8} (hg : l[i]? = some n) (hg3 : B[k]? = some x) {c d ab u : Bool}
  (hf1 : x = n.id → c = true ∧ d = true) (hf2 : x ≠ n.id → u = true → c = true → d = true → False) {M : VEx → Env → List Ob → Prop}
  (hM : M .nor [(0, .sl 22 (l.map ndT)), (4, .op 0 0 []), (5, .op 1 0 []), (8, .sl 20 (B.map idT)), (18, i64 (i : Int)), (22, tb c), (24, tb d), (26, tb ab), (27, i64 (k : Int)), (236, tb false)] [.obj 0 (idT a), .obj 0 (idT b), .obj 0 (.arr 2 20 [idT a, idT b])]) :
  vwp Tryd.prog AvU M [(0, .sl 22 (l.map ndT)), (4, .op 0 0 []), (5, .op 1 0 []), (8, .sl 20 (B.map idT)), (18, i64 (i : Int)), (22, tb c), (24, tb d), (26, tb ab), (27, i64 (k : Int)), (30, tb u)] [.obj 0 (idT a), .obj 0 (idT b), .obj 0 (.arr 2 20 [idT a, idT b])] := by
 by_cases e : x = n.id
 ·have hxq : (x == n.id) = true := by simp [e]
  obtain ⟨rfl, rfl⟩ := hf1 e
  simp -dsimp (disch := first | assumption | omega | (simp only [AsO]; done) | (simp only [AsO]; omega)) only [↓AsU, AsP, AsT, AsR, eq_self, forall_const, Nat.reduceLT, Nat.reduceEqDiff, Nat.reduceSub, Nat.reduceMul, Nat.reduceMod, Nat.reduceDiv, Nat.reducePow, UInt8.reduceToNat, Int.reduceEq, Int.reduceLT, Int.reduceLE, ↓reduceIte, Nat.reduceAdd, Int.reduceToNat, reduceCtorEq, Nat.reduceLeDiff, ↓AxG, hg, Atl, hg3, As9, hxq]
  exact hM
 ·have hxq : (x == n.id) = false := by simp [e]
  have hf3 := hf2 e
  cases u <;> cases c <;> cases d <;> first
   | exact (hf3 rfl rfl rfl).elim
   | (simp -dsimp (disch := first | assumption | omega | (simp only [AsO]; done) | (simp only [AsO]; omega)) only [↓AsU, AsP, AsT, AsR, eq_self, forall_const, Nat.reduceLT, Nat.reduceEqDiff, Nat.reduceSub, Nat.reduceMul, Nat.reduceMod, Nat.reduceDiv, Nat.reducePow, UInt8.reduceToNat, Int.reduceEq, Int.reduceLT, Int.reduceLE, ↓reduceIte, Nat.reduceAdd, Int.reduceToNat, reduceCtorEq, Nat.reduceLeDiff, ↓AxG, hg, Atl, hg3, As9, hxq]
    exact hM)
theorem ARu {l : List Nd} {a b : List UInt8} (hok : GOk l) (hl : l.length ≤ 1000) (hp' : ∀ n ∈ l, n.ps.length ≤ 1000) {B : List (List UInt8)} {i k : Nat} (hi : i < l.length) (hk : k < B.length) (hBl : B.length ≤ 1000) {n : Nd} {x : List UInt8} (hg : l[i]? = some n) (hg3 : B[k]? = some x) (hni : n.id ∈ As7 l) (hxl : x ∈ As7 l) {c d ab : Bool} {w : TV}
  (hf1 : x = n.id → c = true ∧ d = true) (hf2 : x ≠ n.id → dec (Rc l [n.id] x) = true → c = true → d = true → False) {M : VEx → Env → List Ob → Prop}
  (hM : M .nor [(0, .sl 22 (l.map ndT)), (4, .op 0 0 []), (5, .op 1 0 []), (8, .sl 20 (B.map idT)), (18, i64 (i : Int)), (22, tb c), (24, tb d), (26, tb (ab || dec (Rc l [x] n.id))), (27, i64 ((k + 1 : Nat) : Int))] [.obj 0 (idT a), .obj 0 (idT b), .obj 0 (.arr 2 20 [idT a, idT b])]) :
  vwp Tryd.prog AvV M [(0, .sl 22 (l.map ndT)), (4, .op 0 0 []), (5, .op 1 0 []), (8, .sl 20 (B.map idT)), (18, i64 (i : Int)), (22, tb c), (24, tb d), (26, tb ab), (27, i64 (k : Int)), (163, w)] [.obj 0 (idT a), .obj 0 (idT b), .obj 0 (.arr 2 20 [idT a, idT b])] := by
 simp -dsimp (disch := first | assumption | omega | (simp only [AsO]; done) | (simp only [AsO]; omega)) only [↓AsU, AsP, AsT, AsR, eq_self, forall_const, Nat.reduceLT, Nat.reduceEqDiff, Nat.reduceSub, Nat.reduceMul, Nat.reduceMod, Nat.reduceDiv, Nat.reducePow, UInt8.reduceToNat, Int.reduceEq, Int.reduceLT, Int.reduceLE, ↓reduceIte, Nat.reduceAdd, Int.reduceToNat, reduceCtorEq, Nat.reduceLeDiff, ↓AC8, hg, Atl, hg3, Atm, At7, AtW, Ay6, AuY]
 refine ⟨_, (AZD hok (by omega) hp' hxl hni).calls AQg fun r hr => ⟨hr, rfl⟩, ?_⟩
 have hup := AZD hok (by omega) hp' hni hxl
 generalize dec (Rc l [x] n.id) = r0 at *
 generalize dec (Rc l [n.id] x) = u at *
 cases ab <;> cases r0 <;> (
  simp -dsimp (disch := first | assumption | omega | (simp only [AsO]; done) | (simp only [AsO]; omega)) only [↓AsU, AsP, AsT, AsR, eq_self, forall_const, Nat.reduceLT, Nat.reduceEqDiff, Nat.reduceSub, Nat.reduceMul, Nat.reduceMod, Nat.reduceDiv, Nat.reducePow, UInt8.reduceToNat, Int.reduceEq, Int.reduceLT, Int.reduceLE, ↓reduceIte, Nat.reduceAdd, Int.reduceToNat, reduceCtorEq, Nat.reduceLeDiff, ↓AC7, ↓AC5, hg, Atl, hg3, Atm, At7, AtW, Ay6, AuY]
  refine ⟨_, hup.calls AQg fun r hr => ⟨hr, rfl⟩, ?_⟩
  simp -dsimp (disch := first | assumption | omega | (simp only [AsO]; done) | (simp only [AsO]; omega)) only [↓AsU, AsP, AsT, AsR, eq_self, forall_const, Nat.reduceLT, Nat.reduceEqDiff, Nat.reduceSub, Nat.reduceMul, Nat.reduceMod, Nat.reduceDiv, Nat.reducePow, UInt8.reduceToNat, Int.reduceEq, Int.reduceLT, Int.reduceLE, ↓reduceIte, Nat.reduceAdd, Int.reduceToNat, reduceCtorEq, Nat.reduceLeDiff]
  refine ATL hi hk hg hg3 hf1 hf2 ?_
  simp -dsimp (disch := first | assumption | omega | (simp only [AsO]; done) | (simp only [AsO]; omega)) only [↓AsU, AsP, AsT, AsR, eq_self, forall_const, Nat.reduceLT, Nat.reduceEqDiff, Nat.reduceSub, Nat.reduceMul, Nat.reduceMod, Nat.reduceDiv, Nat.reducePow, UInt8.reduceToNat, Int.reduceEq, Int.reduceLT, Int.reduceLE, ↓reduceIte, Nat.reduceAdd, Int.reduceToNat, reduceCtorEq, Nat.reduceLeDiff]
  exact hM)
theorem ASl (l : List Nd) (a b : List UInt8) (h20 : ∀ n ∈ l, n.id.length = 20) (ha : a.length = 20) (hb : b.length = 20) : Awi Tryd.prog 5 [.sl 22 (l.map ndT), idT a, idT b] (fun r => r = tb true) := by
 refine AsZ.toPureV (AGl (by simp) ?_)
 simp -dsimp (disch := first | assumption | omega | (simp only [AsO]; done) | (simp only [AsO]; omega)) only [↓AsU, AsP, AsT, AsR, eq_self, forall_const, Nat.reduceLT, Nat.reduceEqDiff, Nat.reduceSub, Nat.reduceMul, Nat.reduceMod, Nat.reduceDiv, Nat.reducePow, UInt8.reduceToNat, Int.reduceEq, Int.reduceLT, Int.reduceLE, ↓reduceIte, Nat.reduceAdd, Int.reduceToNat, reduceCtorEq, Nat.reduceLeDiff, ↓AFi, ↓ABz, ↓Auo, As9]
 refine (A5l l).calls rfl ?_
 rintro _ rfl
 cases hf : ARq l with
 | false => simp -dsimp (disch := first | assumption | omega | (simp only [AsO]; done) | (simp only [AsO]; omega)) only [↓AsU, AsP, AsT, AsR, eq_self, forall_const, Nat.reduceLT, Nat.reduceEqDiff, Nat.reduceSub, Nat.reduceMul, Nat.reduceMod, Nat.reduceDiv, Nat.reducePow, UInt8.reduceToNat, Int.reduceEq, Int.reduceLT, Int.reduceLE, ↓reduceIte, Nat.reduceAdd, Int.reduceToNat, reduceCtorEq, Nat.reduceLeDiff, ↓Axj, ↓Auo]
 | true =>
  obtain ⟨hl, hp⟩ := AQ8 hf
  have hp' : ∀ n ∈ l, n.ps.length ≤ 1000 := fun n hn => Nat.le_trans (hp n hn) (by omega)
  have h20' : ∀ x ∈ As7 l, x.length = 20 := fun x hx => by obtain ⟨n, hn, rfl⟩ := List.mem_map.1 hx; exact h20 n hn
  simp -dsimp (disch := first | assumption | omega | (simp only [AsO]; done) | (simp only [AsO]; omega)) only [↓AsU, AsP, AsT, AsR, eq_self, forall_const, Nat.reduceLT, Nat.reduceEqDiff, Nat.reduceSub, Nat.reduceMul, Nat.reduceMod, Nat.reduceDiv, Nat.reducePow, UInt8.reduceToNat, Int.reduceEq, Int.reduceLT, Int.reduceLE, ↓reduceIte, Nat.reduceAdd, Int.reduceToNat, reduceCtorEq, Nat.reduceLeDiff, ↓Axj, ↓ABB]
  rw [← As9, ← As9]
  refine (AMg l (by omega) hp' a b).calls (by simp [AtX, AuY]; rfl) fun r hr => ?_
  by_cases hok : AKI l [a, b]
  ·have hok2 : AKI l [b, a] := ⟨hok.1, by have := hok.2; simp at this ⊢; exact ⟨this.2, this.1⟩⟩
   have hin0 : ∀ x ∈ [a, b], x ∈ As7 l := fun x hx => AzX.1 (List.all_eq_true.1 hok.2 x hx)
   have hal := hin0 a (by simp)
   have hbl := hin0 b (by simp)
   have hin : ∀ z, Rc l [a] z ∧ Rc l [b] z → z ∈ As7 l := fun z h => Rc.there hok.1.1 (fun y hy => hin0 y (by simp at hy; simp [hy])) h.1
   obtain ⟨t, ht, hst⟩ : ∃ t, SD t ∧ ∀ z, z ∈ t ↔ Rc l [a] z ∧ Rc l [b] z := by
    obtain ⟨t, ht, h⟩ := AQZ ((As7 l).filter fun z => dec (Rc l [a] z ∧ Rc l [b] z))
    refine ⟨t, ht, fun z => ?_⟩
    rw [h z, List.mem_filter, Avt]
    exact ⟨fun h => h.2, fun h => ⟨hin z h, h⟩⟩
   have htl : ∀ x ∈ t, x ∈ As7 l := fun x hx => hin x ((hst x).1 hx)
   have hbel := AN3 hok.1 htl hst
   have hbu : ∀ x ∈ AFH l t, ∀ y, y ∈ t → y ≠ x → ¬ Rc l [y] x := fun x hx y hy hne => ANV hx hy hne
   have hbs : ∀ x ∈ AFH l t, x ∈ t := fun x hx => ANd hx
   have hbln : (AFH l t).length ≤ 40 := by
    have h1 := Awv ht.nodup htl
    have h2 : (As7 l).length = l.length := by simp [As7]
    exact Nat.le_trans (List.length_filter_le _ _) (by omega)
   have e1 := hr.1 hok t ht hst
   subst e1
   have hst2 : ∀ z, z ∈ t ↔ Rc l [b] z ∧ Rc l [a] z := fun z => (hst z).trans and_comm
   simp -dsimp (disch := first | assumption | omega | (simp only [AsO]; done) | (simp only [AsO]; omega)) only [↓AsU, AsP, AsT, AsR, eq_self, forall_const, Nat.reduceLT, Nat.reduceEqDiff, Nat.reduceSub, Nat.reduceMul, Nat.reduceMod, Nat.reduceDiv, Nat.reducePow, UInt8.reduceToNat, Int.reduceEq, Int.reduceLT, Int.reduceLE, ↓reduceIte, Nat.reduceAdd, Int.reduceToNat, reduceCtorEq, Nat.reduceLeDiff, ↓Aw6, Atm, At7, AtW]
   refine (AMg l (by omega) hp' b a).calls (by simp [AtX, AuY]; rfl) fun r hr => ?_
   have e1 := hr.1 hok2 t ht hst2
   subst e1
   generalize AFH l t = B at *
   simp -dsimp (disch := first | assumption | omega | (simp only [AsO]; done) | (simp only [AsO]; omega)) only [↓AsU, AsP, AsT, AsR, eq_self, forall_const, Nat.reduceLT, Nat.reduceEqDiff, Nat.reduceSub, Nat.reduceMul, Nat.reduceMod, Nat.reduceDiv, Nat.reducePow, UInt8.reduceToNat, Int.reduceEq, Int.reduceLT, Int.reduceLE, ↓reduceIte, Nat.reduceAdd, Int.reduceToNat, reduceCtorEq, Nat.reduceLeDiff, ↓Axh, Atm, At7, AtW]
   refine (AZk B (by omega)).calls rfl fun r hr => ?_
   subst hr
   simp -dsimp (disch := first | assumption | omega | (simp only [AsO]; done) | (simp only [AsO]; omega)) only [↓AsU, AsP, AsT, AsR, eq_self, forall_const, Nat.reduceLT, Nat.reduceEqDiff, Nat.reduceSub, Nat.reduceMul, Nat.reduceMod, Nat.reduceDiv, Nat.reducePow, UInt8.reduceToNat, Int.reduceEq, Int.reduceLT, Int.reduceLE, ↓reduceIte, Nat.reduceAdd, Int.reduceToNat, reduceCtorEq, Nat.reduceLeDiff, ↓Aw8, Atm, At7, AtW]
   refine (A1q B (by omega)).calls rfl fun r hr => ?_
   subst hr
   simp -dsimp (disch := first | assumption | omega | (simp only [AsO]; done) | (simp only [AsO]; omega)) only [↓AsU, AsP, AsT, AsR, eq_self, forall_const, Nat.reduceLT, Nat.reduceEqDiff, Nat.reduceSub, Nat.reduceMul, Nat.reduceMod, Nat.reduceDiv, Nat.reducePow, UInt8.reduceToNat, Int.reduceEq, Int.reduceLT, Int.reduceLE, ↓reduceIte, Nat.reduceAdd, Int.reduceToNat, reduceCtorEq, Nat.reduceLeDiff, ↓Aw7, Atm, At7, AtW]
   refine ASQ.calls rfl fun r hr => ?_
   subst hr
   simp -dsimp (disch := first | assumption | omega | (simp only [AsO]; done) | (simp only [AsO]; omega)) only [↓AsU, AsP, AsT, AsR, eq_self, forall_const, Nat.reduceLT, Nat.reduceEqDiff, Nat.reduceSub, Nat.reduceMul, Nat.reduceMod, Nat.reduceDiv, Nat.reducePow, UInt8.reduceToNat, Int.reduceEq, Int.reduceLT, Int.reduceLE, ↓reduceIte, Nat.reduceAdd, Int.reduceToNat, reduceCtorEq, Nat.reduceLeDiff]
   refine ASQ.calls rfl fun r hr => ?_
   subst hr
   simp -dsimp (disch := first | assumption | omega | (simp only [AsO]; done) | (simp only [AsO]; omega)) only [↓AsU, AsP, AsT, AsR, eq_self, forall_const, Nat.reduceLT, Nat.reduceEqDiff, Nat.reduceSub, Nat.reduceMul, Nat.reduceMod, Nat.reduceDiv, Nat.reducePow, UInt8.reduceToNat, Int.reduceEq, Int.reduceLT, Int.reduceLE, ↓reduceIte, Nat.reduceAdd, Int.reduceToNat, reduceCtorEq, Nat.reduceLeDiff, ↓AwZ]
   refine ASQ.calls rfl fun r hr => ?_
   subst hr
   simp -dsimp (disch := first | assumption | omega | (simp only [AsO]; done) | (simp only [AsO]; omega)) only [↓AsU, AsP, AsT, AsR, eq_self, forall_const, Nat.reduceLT, Nat.reduceEqDiff, Nat.reduceSub, Nat.reduceMul, Nat.reduceMod, Nat.reduceDiv, Nat.reducePow, UInt8.reduceToNat, Int.reduceEq, Int.reduceLT, Int.reduceLE, ↓reduceIte, Nat.reduceAdd, Int.reduceToNat, reduceCtorEq, Nat.reduceLeDiff, ↓ABT, Atm, At7, AtW, AMh, Ay6, AuY]
   refine ((AWK l (by omega) hp' h20 [a, b] [] (by simp) (by simp)).argL (.cons AMT.refl (.cons AMT.refl (.cons AMZ .nil)))).lends (args' := [.sl 22 (l.map ndT), .sl 20 ([a, b].map idT), .val (.slice none 0 0)]) (by simp -dsimp (disch := first | assumption | omega | (simp only [AsO]; done) | (simp only [AsO]; omega)) only [↓AsU, AsP, AsT, AsR, eq_self, forall_const, Nat.reduceLT, Nat.reduceEqDiff, Nat.reduceSub, Nat.reduceMul, Nat.reduceMod, Nat.reduceDiv, Nat.reducePow, UInt8.reduceToNat, Int.reduceEq, Int.reduceLT, Int.reduceLE, ↓reduceIte, Nat.reduceAdd, Int.reduceToNat, reduceCtorEq, Nat.reduceLeDiff]) fun r hr => ?_
   obtain ⟨ids, rfl, ho, hol⟩ := hr.1 (by simpa using hok)
   have hne := AUc hok.1 (a := a) (by simp) hal ho
   have hnl : ids.length ≠ 0 := fun h => hne (List.length_eq_zero_iff.1 h)
   simp -dsimp (disch := first | assumption | omega | (simp only [AsO]; done) | (simp only [AsO]; omega)) only [↓AsU, AsP, AsT, AsR, eq_self, forall_const, Nat.reduceLT, Nat.reduceEqDiff, Nat.reduceSub, Nat.reduceMul, Nat.reduceMod, Nat.reduceDiv, Nat.reducePow, UInt8.reduceToNat, Int.reduceEq, Int.reduceLT, Int.reduceLE, ↓reduceIte, Nat.reduceAdd, Int.reduceToNat, reduceCtorEq, Nat.reduceLeDiff, ↓ABU, Atm, At7, AtW, Ay6, AuY]
   refine (ANm l (by omega) hp' a a).calls (by simp [AtX, AuY]; rfl) fun r hr => ?_
   have e1 := hr.1 ⟨hok.1, by have := hok.2; simp at this ⊢; exact this.1⟩
   have e2 : dec (Rc l [a] a) = true := Avt.2 (.base (by simp))
   rw [e2] at e1
   subst e1
   simp -dsimp (disch := first | assumption | omega | (simp only [AsO]; done) | (simp only [AsO]; omega)) only [↓AsU, AsP, AsT, AsR, eq_self, forall_const, Nat.reduceLT, Nat.reduceEqDiff, Nat.reduceSub, Nat.reduceMul, Nat.reduceMod, Nat.reduceDiv, Nat.reducePow, UInt8.reduceToNat, Int.reduceEq, Int.reduceLT, Int.reduceLE, ↓reduceIte, Nat.reduceAdd, Int.reduceToNat, reduceCtorEq, Nat.reduceLeDiff, ↓ABR, Atm, At7, AtW, Ay6, AuY]
   refine ASQ.calls rfl fun r hr => ?_
   subst hr
   simp -dsimp (disch := first | assumption | omega | (simp only [AsO]; done) | (simp only [AsO]; omega)) only [↓AsU, AsP, AsT, AsR, eq_self, forall_const, Nat.reduceLT, Nat.reduceEqDiff, Nat.reduceSub, Nat.reduceMul, Nat.reduceMod, Nat.reduceDiv, Nat.reducePow, UInt8.reduceToNat, Int.reduceEq, Int.reduceLT, Int.reduceLE, ↓reduceIte, Nat.reduceAdd, Int.reduceToNat, reduceCtorEq, Nat.reduceLeDiff, ↓ABA, ↓ABG]
   refine AtO (fun m e H => ∃ i : Nat, m = l.length - i ∧ i ≤ l.length ∧ e = [(0, .sl 22 (l.map ndT)), (4, .op 0 0 []), (5, .op 1 0 []), (8, .sl 20 (B.map idT)), (18, i64 (i : Int))] ∧ H = [.obj 0 (idT a), .obj 0 (idT b), .obj 0 (.arr 2 20 [idT a, idT b])]) l.length ?_ ?_
   ·exact ⟨0, by simp, by simp, by simp [forget, get], rfl⟩
   ·rintro m e H ⟨i, rfl, hi, rfl, rfl⟩
    by_cases h : i < l.length
    ·have hg : l[i]? = some l[i] := List.getElem?_eq_getElem h
     have hnl : l[i] ∈ l := List.getElem_mem h
     generalize l[i] = n at *
     have hni : n.id ∈ As7 l := AEU hnl
     simp -dsimp (disch := first | assumption | omega | (simp only [AsO]; done) | (simp only [AsO]; omega)) only [↓AsU, AsP, AsT, AsR, eq_self, forall_const, Nat.reduceLT, Nat.reduceEqDiff, Nat.reduceSub, Nat.reduceMul, Nat.reduceMod, Nat.reduceDiv, Nat.reducePow, UInt8.reduceToNat, Int.reduceEq, Int.reduceLT, Int.reduceLE, ↓reduceIte, Nat.reduceAdd, Int.reduceToNat, reduceCtorEq, Nat.reduceLeDiff, ↓Axk, ↓ABN, ↓ADc]
     refine AtO (fun m e H => ∃ j : Nat, m = n.ps.length - j ∧ j ≤ n.ps.length ∧ e = [(0, .sl 22 (l.map ndT)), (4, .op 0 0 []), (5, .op 1 0 []), (8, .sl 20 (B.map idT)), (18, i64 (i : Int)), (19, i64 (j : Int))] ∧ H = [.obj 0 (idT a), .obj 0 (idT b), .obj 0 (.arr 2 20 [idT a, idT b])]) n.ps.length ?_ ?_
     ·exact ⟨0, by simp, by simp, by simp [forget, get], rfl⟩
     ·rintro m e H ⟨j, rfl, hj, rfl, rfl⟩
      have hpl := hp n hnl
      by_cases h2 : j < n.ps.length
      ·have hg2 : n.ps[j]? = some n.ps[j] := List.getElem?_eq_getElem h2
       have hpm : n.ps[j] ∈ n.ps := List.getElem_mem h2
       generalize n.ps[j] = q at *
       simp -dsimp (disch := first | assumption | omega | (simp only [AsO]; done) | (simp only [AsO]; omega)) only [↓AsU, AsP, AsT, AsR, eq_self, forall_const, Nat.reduceLT, Nat.reduceEqDiff, Nat.reduceSub, Nat.reduceMul, Nat.reduceMod, Nat.reduceDiv, Nat.reducePow, UInt8.reduceToNat, Int.reduceEq, Int.reduceLT, Int.reduceLE, ↓reduceIte, Nat.reduceAdd, Int.reduceToNat, reduceCtorEq, Nat.reduceLeDiff, ↓AxF, ↓AC0, hg, Atl, hg2, Atm, At7, AtW, Ay6, AuY]
       refine ⟨_, (AZD hok.1 (by omega) hp' hni (hok.1.1.there n hnl q hpm)).calls AQg fun r hr => ⟨hr, rfl⟩, ?_⟩
       have e1 : dec (Rc l [n.id] q) = true := Avt.2 (.step (x := n.id) (.base (by simp)) (by rw [AGV hok.1.1.nodup hnl]; exact hpm))
       simp -dsimp (disch := first | assumption | omega | (simp only [AsO]; done) | (simp only [AsO]; omega)) only [↓AsU, AsP, AsT, AsR, eq_self, forall_const, Nat.reduceLT, Nat.reduceEqDiff, Nat.reduceSub, Nat.reduceMul, Nat.reduceMod, Nat.reduceDiv, Nat.reducePow, UInt8.reduceToNat, Int.reduceEq, Int.reduceLT, Int.reduceLE, ↓reduceIte, Nat.reduceAdd, Int.reduceToNat, reduceCtorEq, Nat.reduceLeDiff, e1, ↓Auo]
       exact Ate (n.ps.length - (j + 1)) (by omega) (by simp) ⟨j + 1, rfl, by omega, by simp [forget, get], rfl⟩
      ·simp -dsimp (disch := first | assumption | omega | (simp only [AsO]; done) | (simp only [AsO]; omega)) only [↓AsU, AsP, AsT, AsR, eq_self, forall_const, Nat.reduceLT, Nat.reduceEqDiff, Nat.reduceSub, Nat.reduceMul, Nat.reduceMod, Nat.reduceDiv, Nat.reducePow, UInt8.reduceToNat, Int.reduceEq, Int.reduceLT, Int.reduceLE, ↓reduceIte, Nat.reduceAdd, Int.reduceToNat, reduceCtorEq, Nat.reduceLeDiff, ↓AxF, ↓AB1, hg, Atl, Atm, At7, AtW, Ay6, AuY]
       refine ⟨_, (AZD hok.1 (by omega) hp' hal hni).calls AQg fun r hr => ⟨hr, rfl⟩, ?_⟩
       simp -dsimp (disch := first | assumption | omega | (simp only [AsO]; done) | (simp only [AsO]; omega)) only [↓AsU, AsP, AsT, AsR, eq_self, forall_const, Nat.reduceLT, Nat.reduceEqDiff, Nat.reduceSub, Nat.reduceMul, Nat.reduceMod, Nat.reduceDiv, Nat.reducePow, UInt8.reduceToNat, Int.reduceEq, Int.reduceLT, Int.reduceLE, ↓reduceIte, Nat.reduceAdd, Int.reduceToNat, reduceCtorEq, Nat.reduceLeDiff, ↓ABO, hg, Atl, Atm, At7, AtW, Ay6, AuY]
       refine ⟨_, (AZD hok.1 (by omega) hp' hbl hni).calls AQg fun r hr => ⟨hr, rfl⟩, ?_⟩
       have hc := hst n.id
       have hbe := hbel n.id
       rw [← Avt (p := Rc l [a] n.id), ← Avt (p := Rc l [b] n.id)] at hc
       generalize dec (Rc l [a] n.id) = c at *
       generalize dec (Rc l [b] n.id) = d at *
       simp -dsimp (disch := first | assumption | omega | (simp only [AsO]; done) | (simp only [AsO]; omega)) only [↓AsU, AsP, AsT, AsR, eq_self, forall_const, Nat.reduceLT, Nat.reduceEqDiff, Nat.reduceSub, Nat.reduceMul, Nat.reduceMod, Nat.reduceDiv, Nat.reducePow, UInt8.reduceToNat, Int.reduceEq, Int.reduceLT, Int.reduceLE, ↓reduceIte, Nat.reduceAdd, Int.reduceToNat, reduceCtorEq, Nat.reduceLeDiff, ↓ABD, ↓ABP, ↓ABE]
       refine AtO (fun m e H => ∃ k : Nat, m = B.length - k ∧ k ≤ B.length ∧ e = [(0, .sl 22 (l.map ndT)), (4, .op 0 0 []), (5, .op 1 0 []), (8, .sl 20 (B.map idT)), (18, i64 (i : Int)), (22, tb c), (24, tb d), (26, tb ((B.take k).any fun z => dec (Rc l [z] n.id))), (27, i64 (k : Int))] ∧ H = [.obj 0 (idT a), .obj 0 (idT b), .obj 0 (.arr 2 20 [idT a, idT b])]) B.length ?_ ?_
       ·exact ⟨0, by simp, by simp, by simp [forget, get], rfl⟩
       ·rintro m e H ⟨k, rfl, hk, rfl, rfl⟩
        by_cases h3 : k < B.length
        ·have hg3 : B[k]? = some B[k] := List.getElem?_eq_getElem h3
         have hxm : B[k] ∈ B := List.getElem_mem h3
         have htk := List.take_succ_eq_append_getElem h3
         generalize B[k] = x at *
         have hxt := hbs x hxm
         have hxl := htl x hxt
         have hab : (B.take (k + 1)).any (fun z => dec (Rc l [z] n.id)) = ((B.take k).any (fun z => dec (Rc l [z] n.id)) || dec (Rc l [x] n.id)) := by rw [htk, List.any_append]; simp
         simp -dsimp (disch := first | assumption | omega | (simp only [AsO]; done) | (simp only [AsO]; omega)) only [↓AsU, AsP, AsT, AsR, eq_self, forall_const, Nat.reduceLT, Nat.reduceEqDiff, Nat.reduceSub, Nat.reduceMul, Nat.reduceMod, Nat.reduceDiv, Nat.reducePow, UInt8.reduceToNat, Int.reduceEq, Int.reduceLT, Int.reduceLE, ↓reduceIte, Nat.reduceAdd, Int.reduceToNat, reduceCtorEq, Nat.reduceLeDiff, ↓Axx]
         refine ARu hok.1 (by omega) hp' (by omega) (by omega) (by omega) hg hg3 hni hxl (fun e => hc.1 (by rw [← e]; exact hxt)) (fun hne hr h1 h2 => hbu x hxm n.id (hc.2 ⟨h1, h2⟩) (Ne.symm hne) (Avt.1 hr)) ?_
         exact Ate (B.length - (k + 1)) (by omega) (by simp) ⟨k + 1, rfl, by omega, by rw [hab]; simp [forget, get], rfl⟩
        ·have hk2 : k = B.length := by omega
         subst hk2
         rw [List.take_length]
         have hbq : ∀ t : Bool, (t == t) = true := fun t => by cases t <;> rfl
         cases c <;> cases d <;> (
          simp only [Bool.and_true, Bool.and_false] at hbe
          rw [hbe]
          simp -dsimp (disch := first | assumption | omega | (simp only [AsO]; done) | (simp only [AsO]; omega)) only [↓AsU, AsP, AsT, AsR, eq_self, forall_const, Nat.reduceLT, Nat.reduceEqDiff, Nat.reduceSub, Nat.reduceMul, Nat.reduceMod, Nat.reduceDiv, Nat.reducePow, UInt8.reduceToNat, Int.reduceEq, Int.reduceLT, Int.reduceLE, ↓reduceIte, Nat.reduceAdd, Int.reduceToNat, reduceCtorEq, Nat.reduceLeDiff, ↓Axx, ↓ABW, ↓ABS, hbq]
          exact Ate (l.length - (i + 1)) (by omega) (by simp) ⟨i + 1, rfl, by omega, by simp [forget, get], rfl⟩)
    ·simp -dsimp (disch := first | assumption | omega | (simp only [AsO]; done) | (simp only [AsO]; omega)) only [↓AsU, AsP, AsT, AsR, eq_self, forall_const, Nat.reduceLT, Nat.reduceEqDiff, Nat.reduceSub, Nat.reduceMul, Nat.reduceMod, Nat.reduceDiv, Nat.reducePow, UInt8.reduceToNat, Int.reduceEq, Int.reduceLT, Int.reduceLE, ↓reduceIte, Nat.reduceAdd, Int.reduceToNat, reduceCtorEq, Nat.reduceLeDiff, ↓Axk, ↓ABw, ↓Auo]
     done
  ·have hok2 : ¬ AKI l [b, a] := fun h => hok ⟨h.1, by have := h.2; simp at this ⊢; exact ⟨this.2, this.1⟩⟩
   rw [hr.2 hok]
   simp -dsimp (disch := first | assumption | omega | (simp only [AsO]; done) | (simp only [AsO]; omega)) only [↓AsU, AsP, AsT, AsR, eq_self, forall_const, Nat.reduceLT, Nat.reduceEqDiff, Nat.reduceSub, Nat.reduceMul, Nat.reduceMod, Nat.reduceDiv, Nat.reducePow, UInt8.reduceToNat, Int.reduceEq, Int.reduceLT, Int.reduceLE, ↓reduceIte, Nat.reduceAdd, Int.reduceToNat, reduceCtorEq, Nat.reduceLeDiff, ↓Aw6, Atm, At7, AtW]
   refine (AMg l (by omega) hp' b a).calls (by simp [AtX, AuY]; rfl) fun r hr => ?_
   rw [hr.2 hok2]
   simp -dsimp (disch := first | assumption | omega | (simp only [AsO]; done) | (simp only [AsO]; omega)) only [↓AsU, AsP, AsT, AsR, eq_self, forall_const, Nat.reduceLT, Nat.reduceEqDiff, Nat.reduceSub, Nat.reduceMul, Nat.reduceMod, Nat.reduceDiv, Nat.reducePow, UInt8.reduceToNat, Int.reduceEq, Int.reduceLT, Int.reduceLE, ↓reduceIte, Nat.reduceAdd, Int.reduceToNat, reduceCtorEq, Nat.reduceLeDiff, ↓Axh, Atm, At7, AtW]
   refine AY9.calls rfl fun r hr => ?_
   subst hr
   simp -dsimp (disch := first | assumption | omega | (simp only [AsO]; done) | (simp only [AsO]; omega)) only [↓AsU, AsP, AsT, AsR, eq_self, forall_const, Nat.reduceLT, Nat.reduceEqDiff, Nat.reduceSub, Nat.reduceMul, Nat.reduceMod, Nat.reduceDiv, Nat.reducePow, UInt8.reduceToNat, Int.reduceEq, Int.reduceLT, Int.reduceLE, ↓reduceIte, Nat.reduceAdd, Int.reduceToNat, reduceCtorEq, Nat.reduceLeDiff, ↓Aw8, Atm, At7, AtW]
   refine AY2.calls rfl fun r hr => ?_
   subst hr
   simp -dsimp (disch := first | assumption | omega | (simp only [AsO]; done) | (simp only [AsO]; omega)) only [↓AsU, AsP, AsT, AsR, eq_self, forall_const, Nat.reduceLT, Nat.reduceEqDiff, Nat.reduceSub, Nat.reduceMul, Nat.reduceMod, Nat.reduceDiv, Nat.reducePow, UInt8.reduceToNat, Int.reduceEq, Int.reduceLT, Int.reduceLE, ↓reduceIte, Nat.reduceAdd, Int.reduceToNat, reduceCtorEq, Nat.reduceLeDiff, ↓Aw7, Atm, At7, AtW]
   refine AZZ.calls rfl fun r hr => ?_
   subst hr
   simp -dsimp (disch := first | assumption | omega | (simp only [AsO]; done) | (simp only [AsO]; omega)) only [↓AsU, AsP, AsT, AsR, eq_self, forall_const, Nat.reduceLT, Nat.reduceEqDiff, Nat.reduceSub, Nat.reduceMul, Nat.reduceMod, Nat.reduceDiv, Nat.reducePow, UInt8.reduceToNat, Int.reduceEq, Int.reduceLT, Int.reduceLE, ↓reduceIte, Nat.reduceAdd, Int.reduceToNat, reduceCtorEq, Nat.reduceLeDiff]
   refine AZZ.calls rfl fun r hr => ?_
   subst hr
   simp -dsimp (disch := first | assumption | omega | (simp only [AsO]; done) | (simp only [AsO]; omega)) only [↓AsU, AsP, AsT, AsR, eq_self, forall_const, Nat.reduceLT, Nat.reduceEqDiff, Nat.reduceSub, Nat.reduceMul, Nat.reduceMod, Nat.reduceDiv, Nat.reducePow, UInt8.reduceToNat, Int.reduceEq, Int.reduceLT, Int.reduceLE, ↓reduceIte, Nat.reduceAdd, Int.reduceToNat, reduceCtorEq, Nat.reduceLeDiff, ↓AwZ]
   refine AZZ.calls rfl fun r hr => ?_
   subst hr
   simp -dsimp (disch := first | assumption | omega | (simp only [AsO]; done) | (simp only [AsO]; omega)) only [↓AsU, AsP, AsT, AsR, eq_self, forall_const, Nat.reduceLT, Nat.reduceEqDiff, Nat.reduceSub, Nat.reduceMul, Nat.reduceMod, Nat.reduceDiv, Nat.reducePow, UInt8.reduceToNat, Int.reduceEq, Int.reduceLT, Int.reduceLE, ↓reduceIte, Nat.reduceAdd, Int.reduceToNat, reduceCtorEq, Nat.reduceLeDiff, ↓ACX]
   refine AZZ.calls rfl fun r hr => ?_
   subst hr
   simp -dsimp (disch := first | assumption | omega | (simp only [AsO]; done) | (simp only [AsO]; omega)) only [↓AsU, AsP, AsT, AsR, eq_self, forall_const, Nat.reduceLT, Nat.reduceEqDiff, Nat.reduceSub, Nat.reduceMul, Nat.reduceMod, Nat.reduceDiv, Nat.reducePow, UInt8.reduceToNat, Int.reduceEq, Int.reduceLT, Int.reduceLE, ↓reduceIte, Nat.reduceAdd, Int.reduceToNat, reduceCtorEq, Nat.reduceLeDiff, ↓Auo]
end Go.Proofs.YtingoaihnlhiaaaDoor


namespace Go.Proofs.YtingoaihnlhiaaaDoor.graphMeets
open Go.ChangeShapes Go.WideShapes Go.ChangeAt Go.RowKit
set_option linter.unusedVariables false

theorem own : ownKnob Tryd.prog.godebug = none := by kernel_rfl
instance gi : Atj := ⟨[(0, Auj)], by kernel_rfl⟩
instance : AtY := ⟨by kernel_rfl⟩
theorem et : Tryd.prog.globalNamed "errors.errorType" = some 0 := by kernel_rfl
theorem rt : (Tryd.prog.cutTypes.find? (·.1 == "internal/reflectlite.rtype")).map (·.2) = some 118 := by kernel_rfl
theorem AYT : ((List.range Tryd.prog.types.size).filter fun t => Tryd.prog.rowNamed t [101, 114, 114, 111, 114]) = [26] := by kernel_rfl
theorem AJl {W : World} (h : handlesMet Tryd.prog [("errors.errorType", Rows.laid_errors_errorType)] W) : ∃ t fr, W.heap[0]? = some (.cells Auj.cells.toArray t fr) := by
 obtain ⟨name, u, ty, e1, e2, e3, e4, e5⟩ := h _ (List.mem_singleton.2 rfl)
 have en : name = [101, 114, 114, 111, 114] := (Option.some.inj e1).symm
 subst en
 obtain rfl := Option.some.inj (rt.symm.trans e2)
 have hm : ty ∈ (List.range Tryd.prog.types.size).filter fun t => Tryd.prog.rowNamed t [101, 114, 114, 111, 114] := List.mem_filter.2 ⟨List.mem_range.2 e3, e4⟩
 rw [AYT] at hm
 obtain rfl := List.mem_singleton.1 hm
 have hh : typeHandle Tryd.prog 26 = .pointer (some ⟨2, 26, none⟩) := by kernel_rfl
 rw [hh] at e5
 exact AVo et e5
theorem ALf {W : World} (h : laidMetH Tryd.prog Rows.graphMeetsRow.laid W) : AzQ (fun b => b < W.heap.size) W := by
 intro g x hx
 have hm := ANZ hx
 have h' : laidMet Tryd.prog [] W ∧ handlesMet Tryd.prog [("errors.errorType", Rows.laid_errors_errorType)] W := h
 have hm' : (g, x) ∈ ([(0, Auj)] : List (Nat × GV)) := hm
 simp only [List.mem_cons, List.mem_nil_iff, or_false, Prod.mk.injEq] at hm'
 have key : ∃ t fr, W.heap[g]? = some (.cells x.cells.toArray t fr) := by
  rcases hm' with ⟨rfl, rfl⟩
  ·exact AJl h'.2
 obtain ⟨t, fr, hk⟩ := key
 exact ⟨(Array.getElem?_eq_some_iff.1 hk).1, t, fr, hk⟩
noncomputable def ALD (os : Os) : World :=
 let w0 := World.holding Tryd.prog os ⟨#[], #[.slice none 0 0, .agg #[.int .u8 0, .int .u8 0, .int .u8 0, .int .u8 0, .int .u8 0, .int .u8 0, .int .u8 0, .int .u8 0, .int .u8 0, .int .u8 0, .int .u8 0, .int .u8 0, .int .u8 0, .int .u8 0, .int .u8 0, .int .u8 0, .int .u8 0, .int .u8 0, .int .u8 0, .int .u8 0], .agg #[.int .u8 0, .int .u8 0, .int .u8 0, .int .u8 0, .int .u8 0, .int .u8 0, .int .u8 0, .int .u8 0, .int .u8 0, .int .u8 0, .int .u8 0, .int .u8 0, .int .u8 0, .int .u8 0, .int .u8 0, .int .u8 0, .int .u8 0, .int .u8 0, .int .u8 0, .int .u8 0]], []⟩
 let w1 := { w0 with heap := w0.heap.modify 0 fun
   | .cells _ t frozen => .cells Auj.cells.toArray t frozen
   | o => o }
 w1
theorem AKn (os : Os) (args : Array Value) : laidMetH Tryd.prog Rows.graphMeetsRow.laid ((ALD os).forCall (fun _ _ => 0) ⟨#[], args, []⟩).memory :=
 laidMetH_of_parts (laidMet_nil _ _) (by kernel_rfl)

theorem AVs : laidOutB Tryd.prog = true ∧ mapsRowed Tryd.prog = true :=
 have H := ClosedOfChecked.allSpec_of Tryd.checked.wellFormed (by kernel_rfl : Tryd.checked.prog.types = Tryd.checked.src.types)
 ⟨ClosedOfChecked.laidOutB_of H (by kernel_rfl), ClosedOfChecked.mapsRowed_of H⟩
theorem Awh {a b : Bool} (h : a = true) (k : b = true) : (a && b) = true := by rw [h, k]; rfl
theorem A0P : (Rows.graphMeetsRow.wf (OpenSpec.ofChange Rows.graphMeetsSpec)) = true := by kernel_rfl
theorem A0l : (laidOutB Tryd.prog) = true := AVs.1
theorem A1z : (mapsRowed Tryd.prog) = true := AVs.2
theorem A0V : (Tryd.f5.params.all (Tryd.prog.readableRec ·)) = true := by kernel_rfl
theorem A1l : (namedTie Tryd.prog Rows.graphMeetsRow.named Rows.graphMeetsSpec.vars) = true := by kernel_rfl
theorem A0K : ((Rows.graphMeetsRow.stops == [])) = true := by kernel_rfl
theorem A1o : ((Tryd.prog.stops == [])) = true := by kernel_rfl
theorem A08 : ((Rows.graphMeetsRow.knobs == [])) = true := by kernel_rfl
theorem A3X : ((Tryd.prog.stopKnobs == [])) = true := by kernel_rfl
theorem A0R : ((Rows.graphMeetsRow.inPlace == Tryd.prog.inPlace 5)) = true := by kernel_rfl
theorem AZg : ((Rows.graphMeetsRow.unfollowed == Tryd.prog.unfollowed 5)) = true := by kernel_rfl
theorem AXJ : ((Rows.graphMeetsRow.recurses == Tryd.prog.recurses 5)) = true := by kernel_rfl
theorem AXA : ((Rows.graphMeetsRow.named == Tryd.prog.varsNamed 5)) = true := by kernel_rfl
theorem AYZ : ((Rows.graphMeetsRow.maps == (Tryd.f5.params.toList ++ Rows.graphMeetsSpec.plain.varTypes Tryd.prog).any (Tryd.prog.mapsRec ·))) = true := by kernel_rfl
theorem AYH : ((Rows.graphMeetsRow.ifaces == (Tryd.f5.params.toList ++ Rows.graphMeetsSpec.plain.varTypes Tryd.prog).any (Tryd.prog.ifacesRec ·))) = true := by kernel_rfl
theorem AYp : ((Rows.graphMeetsRow.mapsOut == Tryd.prog.mapsAmong Tryd.f5.resultTypes.toList)) = true := by kernel_rfl
theorem AYK : ((Rows.graphMeetsRow.loops == (Tryd.f5.params.toList ++ Rows.graphMeetsSpec.plain.varTypes Tryd.prog).any (Tryd.prog.loopsFrom ·))) = true := by kernel_rfl
theorem AX3 : ((Rows.graphMeetsRow.wideKeys == (Tryd.f5.params.toList ++ Rows.graphMeetsSpec.plain.varTypes Tryd.prog ++ Tryd.f5.resultTypes.toList).any (Tryd.prog.wideKeysFrom ·))) = true := by kernel_rfl
theorem AZl : (Rows.graphMeetsSpec.vars.all (Tryd.prog.varReadable ·)) = true := by kernel_rfl
theorem AYY : (Tryd.f5.resultTypes.all (fun t => Tryd.prog.readableRec t && decide (t < Tryd.prog.types.size))) = true := by kernel_rfl
theorem AXM : ((Rows.graphMeetsRow.ifacesOut == Tryd.f5.resultTypes.toList.any (Tryd.prog.ifacesRec ·))) = true := by kernel_rfl
theorem AXr : ((Rows.graphMeetsRow.loopsOut == Tryd.f5.resultTypes.toList.any (Tryd.prog.loopsFrom ·))) = true := by kernel_rfl
theorem AYA : ((Rows.graphMeetsRow.plainKeys == Tryd.prog.plainKeys)) = true := by kernel_rfl
theorem AZJ : (Rows.graphMeetsRow.shortTexts.isNone) = true := by kernel_rfl
theorem AYl : (Tryd.prog.stopsHeard) = true := by kernel_rfl
theorem AZT : (Tryd.prog.mayEnter) = true := by kernel_rfl
theorem AZi : ((Rows.graphMeetsRow.lifted == Tryd.prog.liftsFinal)) = true := by kernel_rfl
theorem AYM : ((Tryd.prog.make == some Rows.graphMeetsRow.make)) = true := by kernel_rfl
theorem AZw : ((Rows.graphMeetsRow.kinds == (if Rows.graphMeetsRow.domain.isEmpty then [] else Tryd.f5.params.toList.map fun t => match Tryd.prog.underlying t with | some (.int k) => some k | _ => none))) = true := by kernel_rfl
theorem AXG : ((Rows.graphMeetsRow.pinned == Rows.graphMeetsRow.pinnedBy)) = true := by kernel_rfl
theorem AYJ : ((Rows.graphMeetsRow.veiled == (Tryd.f5.params.toList ++ Rows.graphMeetsSpec.plain.varTypes Tryd.prog ++ Tryd.f5.resultTypes.toList).any (Tryd.prog.veiledRec ·))) = true := by kernel_rfl
theorem AZm : (Rows.graphMeetsRow.veiledFits Tryd.prog Tryd.f5.params.toList (Tryd.f5.params.toList ++ Rows.graphMeetsSpec.plain.varTypes Tryd.prog ++ Tryd.f5.resultTypes.toList)) = true := by kernel_rfl
set_option maxRecDepth 100000 in
theorem ARL : ((Rows.graphMeetsRow.wf (OpenSpec.ofChange Rows.graphMeetsSpec)) && (laidOutB Tryd.prog) && (mapsRowed Tryd.prog) && (Tryd.f5.params.all (Tryd.prog.readableRec ·)) && (namedTie Tryd.prog Rows.graphMeetsRow.named Rows.graphMeetsSpec.vars) && ((Rows.graphMeetsRow.stops == [])) && ((Tryd.prog.stops == [])) && ((Rows.graphMeetsRow.knobs == [])) && ((Tryd.prog.stopKnobs == [])) && ((Rows.graphMeetsRow.inPlace == Tryd.prog.inPlace 5)) && ((Rows.graphMeetsRow.unfollowed == Tryd.prog.unfollowed 5)) && ((Rows.graphMeetsRow.recurses == Tryd.prog.recurses 5)) && ((Rows.graphMeetsRow.named == Tryd.prog.varsNamed 5)) && ((Rows.graphMeetsRow.maps == (Tryd.f5.params.toList ++ Rows.graphMeetsSpec.plain.varTypes Tryd.prog).any (Tryd.prog.mapsRec ·))) && ((Rows.graphMeetsRow.ifaces == (Tryd.f5.params.toList ++ Rows.graphMeetsSpec.plain.varTypes Tryd.prog).any (Tryd.prog.ifacesRec ·))) && ((Rows.graphMeetsRow.mapsOut == Tryd.prog.mapsAmong Tryd.f5.resultTypes.toList)) && ((Rows.graphMeetsRow.loops == (Tryd.f5.params.toList ++ Rows.graphMeetsSpec.plain.varTypes Tryd.prog).any (Tryd.prog.loopsFrom ·))) && ((Rows.graphMeetsRow.wideKeys == (Tryd.f5.params.toList ++ Rows.graphMeetsSpec.plain.varTypes Tryd.prog ++ Tryd.f5.resultTypes.toList).any (Tryd.prog.wideKeysFrom ·))) && (Rows.graphMeetsSpec.vars.all (Tryd.prog.varReadable ·)) && (Tryd.f5.resultTypes.all (fun t => Tryd.prog.readableRec t && decide (t < Tryd.prog.types.size))) && ((Rows.graphMeetsRow.ifacesOut == Tryd.f5.resultTypes.toList.any (Tryd.prog.ifacesRec ·))) && ((Rows.graphMeetsRow.loopsOut == Tryd.f5.resultTypes.toList.any (Tryd.prog.loopsFrom ·))) && ((Rows.graphMeetsRow.plainKeys == Tryd.prog.plainKeys)) && (Rows.graphMeetsRow.shortTexts.isNone) && (Tryd.prog.stopsHeard) && (Tryd.prog.mayEnter) && ((Rows.graphMeetsRow.lifted == Tryd.prog.liftsFinal)) && ((Tryd.prog.make == some Rows.graphMeetsRow.make)) && ((Rows.graphMeetsRow.kinds == (if Rows.graphMeetsRow.domain.isEmpty then [] else Tryd.f5.params.toList.map fun t => match Tryd.prog.underlying t with | some (.int k) => some k | _ => none))) && ((Rows.graphMeetsRow.pinned == Rows.graphMeetsRow.pinnedBy)) && ((Rows.graphMeetsRow.veiled == (Tryd.f5.params.toList ++ Rows.graphMeetsSpec.plain.varTypes Tryd.prog ++ Tryd.f5.resultTypes.toList).any (Tryd.prog.veiledRec ·))) && (Rows.graphMeetsRow.veiledFits Tryd.prog Tryd.f5.params.toList (Tryd.f5.params.toList ++ Rows.graphMeetsSpec.plain.varTypes Tryd.prog ++ Tryd.f5.resultTypes.toList))) = true := (Awh (Awh (Awh (Awh (Awh (Awh (Awh (Awh (Awh (Awh (Awh (Awh (Awh (Awh (Awh (Awh (Awh (Awh (Awh (Awh (Awh (Awh (Awh (Awh (Awh (Awh (Awh (Awh (Awh (Awh (Awh A0P A0l) A1z) A0V) A1l) A0K) A1o) A08) A3X) A0R) AZg) AXJ) AXA) AYZ) AYH) AYp) AYK) AX3) AZl) AYY) AXM) AXr) AYA) AZJ) AYl) AZT) AZi) AYM) AZw) AXG) AYJ) AZm)
set_option maxRecDepth 100000 in
theorem AMf : joinedFacts Tryd.prog 5 Tryd.f5 Rows.graphMeetsSpec Rows.graphMeetsRow = true := ARL
set_option maxRecDepth 100000 in
theorem lifted (os : Os) (started : os.Started) (H : Type) (enc : TypeId × Value → H) :
  ReturnsInHanded {} Tryd.checked os 5 .any (fun w args => (Rows.graphMeetsSpec.pre enc Tryd.prog Tryd.f5 [] false w args ∧ laidMetH Tryd.prog Rows.graphMeetsRow.laid w) ∧ sizedMet enc Tryd.prog Tryd.f5 (OpenSpec.ofChange Rows.graphMeetsSpec) false w args) (Rows.graphMeetsSpec.post enc Tryd.prog Tryd.f5 false true false false) := by
 refine returnsInHanded_of_change_and (C := Tryd.checked) (X := fun w _ => laidMetH Tryd.prog Rows.graphMeetsRow.laid w) (fun _ _ _ hh h => h.of_heap hh) own started (by kernel_rfl) Tryd.func5
  (ChangeSpec.witness_at (enc := enc) (C := Tryd.checked) (os := os) (X := fun w _ => laidMetH Tryd.prog Rows.graphMeetsRow.laid w) false (ALD os) #[.slice none 0 0, .agg #[.int .u8 0, .int .u8 0, .int .u8 0, .int .u8 0, .int .u8 0, .int .u8 0, .int .u8 0, .int .u8 0, .int .u8 0, .int .u8 0, .int .u8 0, .int .u8 0, .int .u8 0, .int .u8 0, .int .u8 0, .int .u8 0, .int .u8 0, .int .u8 0, .int .u8 0, .int .u8 0], .agg #[.int .u8 0, .int .u8 0, .int .u8 0, .int .u8 0, .int .u8 0, .int .u8 0, .int .u8 0, .int .u8 0, .int .u8 0, .int .u8 0, .int .u8 0, .int .u8 0, .int .u8 0, .int .u8 0, .int .u8 0, .int .u8 0, .int .u8 0, .int .u8 0, .int .u8 0, .int .u8 0]] 8 rfl (by kernel_rfl) (by kernel_rfl) (by kernel_rfl) (by kernel_rfl) (by kernel_rfl) (AKn os _)) ?_
 intro W base args ds gs before hval0 hW hcnd hsz0 hL _
 have hsz : (DataW.weightsEach Tryd.prog (Tryd.f5.params.toList ++ Rows.graphMeetsSpec.plain.varTypes Tryd.prog) (ds ++ gs)).all (· ≤ reachBytes) = true := hsz0
 have hval : ∀ (j : Nat) t v, Tryd.f5.params[j]? = some t → args[j]? = some v → Value.okWide Tryd.prog W .any base t v := hval0
 have hW' := hW
 obtain ⟨p, q, hA0, hV, rfl, hfz, hnd⟩ := hW
 have hA : DataW.TrodAll enc Tryd.prog W 0 (fun _ => true) true Tryd.f5.params.toList args.toList ds p := hA0
 obtain ⟨rfl, rfl⟩ := trodVars_none hV
 have hsz2 : (DataW.weightsEach Tryd.prog Tryd.f5.params.toList ds).all (· ≤ reachBytes) = true := by
  have e : Tryd.f5.params.toList ++ Rows.graphMeetsSpec.plain.varTypes Tryd.prog = Tryd.f5.params.toList := by simp [ChangeSpec.plain, Rows.graphMeetsSpec]; rfl
  rw [e, List.append_nil] at hsz; exact hsz
 have hA' := hA
 have hps : (Tryd.f5.params.toList.all fun t => Tryd.prog.readableRec t && decide (t < Tryd.prog.types.size)) = true := by kernel_rfl
 have hv2 : ∀ (j : Nat) t v, Tryd.f5.params.toList[j]? = some t → args.toList[j]? = some v → ∃ base, Value.okWide Tryd.prog W .any base t v := fun j t v h1 h2 => ⟨base, hval j t v (by rw [← Array.getElem?_toList]; exact h1) (by rw [← Array.getElem?_toList]; exact h2)⟩
 rw [Tryd.params5] at hA hsz2 hv2
 obtain ⟨dsE, hdsE⟩ : ∃ x, x = ds := ⟨_, rfl⟩
 refine (AZP (f := 5) (AAb ALl (ALS Tryd.underlying22) (fun _ => rfl) (AAb (AF4 Tryd.underlying40 (by kernel_rfl)) (AHW Tryd.underlying40) (fun _ => rfl) (AAb (AF4 Tryd.underlying40 (by kernel_rfl)) (AHW Tryd.underlying40) (fun _ => rfl) AKa))) (fun a h => ASl a.1 a.2.1 a.2.2.1 h.1 h.2.1 h.2.2.1) hA hv2 hsz2 (ALf hL)).mono fun e W' ⟨he, bel⟩ => ?_
 subst he
 have hB := AGC AVs.1 bel hps hA'
 have hAo := hA
 obtain ⟨v0, vs0, d0, ds0, p0, q0, ha0, hd0, hp0, h0, r0⟩ := trodAll_cons hAo
 obtain ⟨v1, vs1, d1, ds1, p1, q1, ha1, hd1, hp1, h1, r1⟩ := trodAll_cons r0
 obtain ⟨v2, vs2, d2, ds2, p2, q2, ha2, hd2, hp2, h2, r2⟩ := trodAll_cons r1
 obtain ⟨hz1, hz2, hz3⟩ := trodAll_nil r2
 have hd : ds = [d0, d1, d2] := by rw [hd0, hd1, hd2, hz2]
 subst hd
 exact ⟨_, rfl, _, _, _, [], _, [], hW', trodAll_mk1 (shut_bool Tryd.underlying4 _), hB, rfl, bel.frame _, fun h => by cases h⟩

theorem over : Rows.graphMeetsRow.holds Tryd.pinned (OpenSpec.ofChange Rows.graphMeetsSpec) :=
 OpenClaim.holds_of_wide 5 Tryd.f5 rfl rfl rfl rfl rfl rfl rfl ⟨rfl, rfl, rfl, rfl, rfl⟩ rfl rfl rfl rfl rfl (by kernel_rfl) Tryd.func5 AMf
  (of_decide_eq_true (by kernel_rfl)) (by unfold Func.isWrapper; first | (rw [if_pos (by decide +kernel)]; kernel_rfl) | (rw [if_neg (by decide +kernel)]; exact ⟨rfl, rfl⟩))
  (fun os started H enc _ => lifted os started H enc)
theorem stands : (Tryd.f5.params.toList.all fun t => !Tryd.prog.wantsStandIn t) = true := by kernel_rfl
theorem proved : Rows.GraphMeetsCardSaid :=
 Claim7.holds_tied_plain_at .later [] [.handle] true (true, "39e33661b3df449857456570c2a248c47def025802fa2ecef979a36e033f17ae") true
  over (fun _ h => by cases h) (by kernel_rfl) (fun _ h => by cases h) graphMeets_row_tie rfl ⟨rfl, rfl⟩ (by kernel_rfl) rfl
  (fun f fn hf hfn => by
   obtain rfl : f = 5 := (Option.some.inj ((show Tryd.prog.funcNamed "gitlike/gitlikelaw9.GraphMeets" = some 5 by kernel_rfl).symm.trans hf)).symm
   obtain rfl : fn = Tryd.f5 := (Option.some.inj (Tryd.func5.symm.trans hfn)).symm
   exact ⟨by kernel_rfl, fun j t ht => by
    rw [← Array.getElem?_toList] at ht
    have := List.all_eq_true.1 stands t (List.mem_of_getElem? ht)
    exact (show Tryd.prog.wantsStandIn t = false by simpa using this)⟩)
  (by kernel_rfl)
#print axioms proved
end Go.Proofs.YtingoaihnlhiaaaDoor.graphMeets

