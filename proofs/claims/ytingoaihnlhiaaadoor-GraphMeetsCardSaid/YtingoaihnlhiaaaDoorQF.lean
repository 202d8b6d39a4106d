/- What the proof of GraphMeetsCard stands on (texts merged; names shortened by a program): part 6. -/
import Derived.Test.YtingoaihnlhiaaaDoorQE
import Derived.Test.YtingoaihnlhiaaaDoorQD
import Derived.Laws.Cover1
import Derived.Test.YtingoaihnlhiaaaDoorProg
import Derived.WalkKit
import Derived.LaidEql
import Derived.Stop.Asserts
import Derived.RowKitTokens
import Derived.KernelRfl
namespace Go.Proofs.YtingoaihnlhiaaaDoor
open Go.RowKit
variable [Bc]
set_option linter.unusedSectionVars false
set_option linter.unusedVariables false
set_option linter.unusedSimpArgs false

theorem AdQ {ids : List (List UInt8)} (hlen : ids.length ≤ 100000) {H : List Ob} {K : TV → List Ob → Prop} (h0 : ids = [] → K (.val (.slice none 0 0)) H) (h1 : K (.os 20 H.length 1 [] 0 ids.length ids.length) (H ++ [.obj 1 (.arr ids.length 20 (ids.map idT))])) :
  Aq Tryd.prog 38 [.sl 20 (ids.map idT)] H K := by
 refine Cc (by simp) ?_
 by_cases hn : ids = []
 ·subst hn
  simp -dsimp (disch := first | assumption | omega | (simp only [Ad]; done) | (simp only [Ad]; omega)) only [↓Ah, Ae, Ag, Ai, eq_self, forall_const, Nat.reduceLT, Nat.reduceEqDiff, Nat.reduceSub, Nat.reduceMul, Nat.reduceMod, Nat.reduceDiv, Nat.reducePow, UInt8.reduceToNat, Int.reduceEq, Int.reduceLT, Int.reduceLE, ↓reduceIte, Nat.reduceAdd, Int.reduceToNat, reduceCtorEq, Nat.reduceLeDiff, ↓AA]
  refine ZJ ?_ ?_
  ·simp -dsimp (disch := first | assumption | omega | (simp only [Ad]; done) | (simp only [Ad]; omega)) only [↓Ah, Ae, Ag, Ai, eq_self, forall_const, Nat.reduceLT, Nat.reduceEqDiff, Nat.reduceSub, Nat.reduceMul, Nat.reduceMod, Nat.reduceDiv, Nat.reducePow, UInt8.reduceToNat, Int.reduceEq, Int.reduceLT, Int.reduceLE, ↓reduceIte, Nat.reduceAdd, Int.reduceToNat, reduceCtorEq, Nat.reduceLeDiff, ↓AA]
   exact h0 rfl
  ·simp -dsimp (disch := first | assumption | omega | (simp only [Ad]; done) | (simp only [Ad]; omega)) only [↓Ah, Ae, Ag, Ai, eq_self, forall_const, Nat.reduceLT, Nat.reduceEqDiff, Nat.reduceSub, Nat.reduceMul, Nat.reduceMod, Nat.reduceDiv, Nat.reducePow, UInt8.reduceToNat, Int.reduceEq, Int.reduceLT, Int.reduceLE, ↓reduceIte, Nat.reduceAdd, Int.reduceToNat, reduceCtorEq, Nat.reduceLeDiff, ↓AA]
   simpa using h1
 ·have hn0 : ids.length ≠ 0 := fun e => hn (List.length_eq_zero_iff.1 e)
  simp -dsimp (disch := first | assumption | omega | (simp only [Ad]; done) | (simp only [Ad]; omega)) only [↓Ah, Ae, Ag, Ai, eq_self, forall_const, Nat.reduceLT, Nat.reduceEqDiff, Nat.reduceSub, Nat.reduceMul, Nat.reduceMod, Nat.reduceDiv, Nat.reducePow, UInt8.reduceToNat, Int.reduceEq, Int.reduceLT, Int.reduceLE, ↓reduceIte, Nat.reduceAdd, Int.reduceToNat, reduceCtorEq, Nat.reduceLeDiff, ↓AA]
  simpa using h1
theorem AqR {es : List (List UInt8 × TV)} {H : List Ob} {m : Nat} (hm : H[m]? = some (.mpo (.arr 20) es)) (hes : ∀ k y, GL k es = some y → y = .agg []) (x : List UInt8) {K : TV → List Ob → Prop} (hK : ∀ T, K (tb ((es.map (·.1)).contains x)) (H ++ T)) :
  Aq Tryd.prog 25 [.mp m 0, idT x] H K := by
 have h3 := Ap hm
 refine Qx (by simp) ?_
 have hk : ∀ {es : List (List UInt8 × TV)}, (GL x es).isSome = (es.map (·.1)).contains x := by
  intro es
  induction es with
  | nil => rw [GL]; rfl
  | cons e es ih =>
   obtain ⟨k, y⟩ := e
   rw [GL]
   by_cases h : k = x
   ·subst h; simp
   ·rw [if_neg h, ih]
    have : (x == k) = false := by simpa using fun e => h e.symm
    simp [this, List.contains_cons]
 rw [← hk] at hK
 cases hl : GL x es with
 | none =>
  rw [hl] at hK
  simp -dsimp (disch := first | assumption | omega | (simp only [Ad]; done) | (simp only [Ad]; omega)) only [↓Ah, Ae, Ag, Ai, eq_self, forall_const, Nat.reduceLT, Nat.reduceEqDiff, Nat.reduceSub, Nat.reduceMul, Nat.reduceMod, Nat.reduceDiv, Nat.reducePow, UInt8.reduceToNat, Int.reduceEq, Int.reduceLT, Int.reduceLE, ↓reduceIte, Nat.reduceAdd, Int.reduceToNat, reduceCtorEq, Nat.reduceLeDiff, ↓Ia, hm, AP, hl]
  simp only [List.append_assoc]
  exact hK _
 | some y =>
  rw [hl] at hK
  have hy := hes x y hl
  subst hy
  simp -dsimp (disch := first | assumption | omega | (simp only [Ad]; done) | (simp only [Ad]; omega)) only [↓Ah, Ae, Ag, Ai, eq_self, forall_const, Nat.reduceLT, Nat.reduceEqDiff, Nat.reduceSub, Nat.reduceMul, Nat.reduceMod, Nat.reduceDiv, Nat.reducePow, UInt8.reduceToNat, Int.reduceEq, Int.reduceLT, Int.reduceLE, ↓reduceIte, Nat.reduceAdd, Int.reduceToNat, reduceCtorEq, Nat.reduceLeDiff, ↓Ia, hm, AP, hl]
  simp only [List.append_assoc]
  exact hK _
/-- A set of ids. -/
def Ko (seen : List (List UInt8)) : List (List UInt8 × TV) := seen.map fun k => (k, .agg [])
theorem Ot {seen : List (List UInt8)} : (Ko seen).map (·.1) = seen := by simp [Ko, Function.comp_def]
theorem VT {seen : List (List UInt8)} : ∀ k y, GL k (Ko seen) = some y → y = .agg [] := by
 intro k y
 induction seen with
 | nil => intro h; simp [Ko, GL] at h
 | cons a seen ih =>
  intro h
  rw [Ko, List.map_cons, GL] at h
  split at h
  ·cases h; rfl
  ·exact ih h
theorem Aj3 {seen : List (List UInt8)} {x : List UInt8} (h : ¬ x ∈ seen) : Hg x (.agg []) (Ko seen) = Ko (seen ++ [x]) := by
 rw [Abf (by rw [Ot]; exact h)]; simp [Ko]
theorem UU {l : List Nd} (hok : GOk l) (hl : l.length ≤ 1000) (hp : ∀ n ∈ l, n.ps.length ≤ 1000) {S : List (List UInt8)} (hlen : S.length ≤ 100000) (hS : ∀ x ∈ S, x ∈ AL l) {H : List Ob} {gi mi : Nat} (hg : H[gi]? = some (.obj 0 (.agg [.mp mi 0, .val (.map none)]))) (hm : H[mi]? = some (.mpo (.arr 20) (AZ l))) {A : TV} (hA1 : BP A = false)
  (hA : ∀ K : TV → List Ob → Prop, (S = [] → K (.val (.slice none 0 0)) (H ++ [.mpo (.arr 20) []])) → K (.os 20 (H ++ [Ob.mpo (.arr 20) []]).length 1 [] 0 S.length S.length) (H ++ [.mpo (.arr 20) []] ++ [.obj 1 (.arr S.length 20 (S.map idT))]) → Aq Tryd.prog 38 [A] (H ++ [.mpo (.arr 20) []]) K) {K : TV → List Ob → Prop}
  (hK : ∀ seen T, seen.Nodup → (∀ x, x ∈ seen ↔ Rc l S x) → K (.mp H.length 0) (H ++ .mpo (.arr 20) (Ko seen) :: T)) : Aq Tryd.prog 21 [.op gi 0 [], A] H K := by
 have h2 := Ap hg
 have h3 := Ap hm
 have loop : ∀ (e0 : Env) (H0 : List Ob) (v N cp : Nat) (cs : List TV), H0 = H ++ [.mpo (.arr 20) [], .obj v (.arr N 20 cs)] → forget [0, 5, 6] e0 = [(0, .op gi 0 []), (5, .mp H.length 0), (6, .os 20 (H.length + 1) v [] 0 S.length cp)] → cs.take S.length = S.map idT → S.length ≤ cs.length → S.length ≤ cp →
   vwp Tryd.prog (.loop [0, 5, 6] EM) (Blk 0 (Thn Tryd.prog EK (Yc Gv K))) e0 H0 := by
  intro e0 H0 v0 N0 cp0 cs0 hH0 he0 hcs0 hlc0 hcp0
  have hsum : ∀ m : List Nd, (∀ n ∈ m, n.ps.length ≤ 1000) → (m.map fun n => n.ps.length + 1).sum ≤ 1001 * m.length := by
   intro m
   induction m with
   | nil => simp
   | cons a m ih =>
    intro h
    have h1 := h a (by simp)
    have h2 := ih fun n hn => h n (by simp [hn])
    rw [List.map_cons, List.sum_cons, List.length_cons]; omega
  refine BN (fun q e H' => ∃ (seen todo : List (List UInt8)) (v N cp : Nat) (cs : List TV) (T : List Ob), q = YM.left l seen todo ∧ q ≤ 2000000 ∧ YM l S seen todo ∧ cs.take todo.length = todo.map idT ∧ todo.length ≤ cs.length ∧ todo.length ≤ cp ∧
   e = [(0, .op gi 0 []), (5, .mp H.length 0), (6, .os 20 (H.length + 1) v [] 0 todo.length cp)] ∧ H' = H ++ [.mpo (.arr 20) (Ko seen), .obj v (.arr N 20 cs)] ++ T) (YM.left l [] S) ?_ ?_
  ·refine ⟨[], S, v0, N0, cp0, cs0, [], rfl, ?_, YM.start, hcs0, hlc0, hcp0, he0, by rw [hH0]; simp [Ko]⟩
   have h1 := hsum l hp
   have h2 : (l.filter fun n => !([] : List (List UInt8)).contains n.id) = l := by simp
   unfold YM.left
   rw [h2]; omega
  ·rintro q e H' ⟨seen, todo, v, N, cp, cs, T, rfl, hq, hs, hcs, hlc, hcp, rfl, rfl⟩
   rcases List.eq_nil_or_concat todo with rfl | ⟨t, x, rfl⟩
   ·simp -dsimp (disch := first | assumption | omega | (simp only [Ad]; done) | (simp only [Ad]; omega)) only [↓Ah, Ae, Ag, Ai, eq_self, forall_const, Nat.reduceLT, Nat.reduceEqDiff, Nat.reduceSub, Nat.reduceMul, Nat.reduceMod, Nat.reduceDiv, Nat.reducePow, UInt8.reduceToNat, Int.reduceEq, Int.reduceLT, Int.reduceLE, ↓reduceIte, Nat.reduceAdd, Int.reduceToNat, reduceCtorEq, Nat.reduceLeDiff, ↓Bv]
    rw [List.append_assoc]
    exact hK seen _ hs.nodup hs.done
   ·simp only [List.concat_eq_append, List.length_append, List.length_singleton, List.map_append, List.map_cons, List.map_nil] at *
    have hlast : cs[t.length]? = some (idT x) := by
     have h0 : (cs.take (t.length + 1))[t.length]? = some (idT x) := by
      rw [hcs, List.getElem?_append_right (by simp)]; simp
     rwa [List.getElem?_take, if_pos (by omega)] at h0
    have htk : cs.take t.length = t.map idT := by
     have h0 := congrArg (List.take t.length) hcs
     rw [List.take_take, Nat.min_eq_left (by omega)] at h0
     rw [h0, List.take_left' (by simp)]
    rw [AP] at hlast
    have hqt : t.length + 1 ≤ 2000000 := by
     have := hq
     unfold YM.left at this
     rw [List.length_append, List.length_singleton] at this
     omega
    have hx : x ∈ AL l := Rc.there hok.1 hS (hs.htodo x (by simp))
    obtain ⟨n, hn, rfl⟩ := List.mem_map.1 hx
    have hlook : GL n.id (AZ l) = some (ndT n) := EY hok.1.nodup hn
    have hpn := hp n hn
    have hpo : pOf l n.id = n.ps := Xm hok.1.nodup hn
    simp -dsimp (disch := first | assumption | omega | (simp only [Ad]; done) | (simp only [Ad]; omega)) only [↓Ah, Ae, Ag, Ai, eq_self, forall_const, Nat.reduceLT, Nat.reduceEqDiff, Nat.reduceSub, Nat.reduceMul, Nat.reduceMod, Nat.reduceDiv, Nat.reducePow, UInt8.reduceToNat, Int.reduceEq, Int.reduceLT, Int.reduceLE, ↓reduceIte, Nat.reduceAdd, Int.reduceToNat, reduceCtorEq, Nat.reduceLeDiff, ↓Bv, hlast]
    rw [← AP]
    refine BQ (AqR (es := Ko seen) (by rw [List.append_assoc, List.append_assoc, Ro rfl]; rfl) VT n.id fun T' => ?_)
    rw [Ot]
    by_cases hsn : n.id ∈ seen
    ·have hc : seen.contains n.id = true := by simpa using hsn
     rw [hc]
     simp -dsimp (disch := first | assumption | omega | (simp only [Ad]; done) | (simp only [Ad]; omega)) only [↓Ah, Ae, Ag, Ai, eq_self, forall_const, Nat.reduceLT, Nat.reduceEqDiff, Nat.reduceSub, Nat.reduceMul, Nat.reduceMod, Nat.reduceDiv, Nat.reducePow, UInt8.reduceToNat, Int.reduceEq, Int.reduceLT, Int.reduceLE, ↓reduceIte, Nat.reduceAdd, Int.reduceToNat, reduceCtorEq, Nat.reduceLeDiff, ↓Bv]
     have hlt : YM.left l seen t < YM.left l seen (t ++ [n.id]) := by unfold YM.left; rw [List.length_append, List.length_singleton]; omega
     exact AY (YM.left l seen t) hlt (by rw [hH0]; simp) ⟨seen, t, v, N, cp, cs, T ++ [Ob.obj 0 (idT n.id)] ++ T', rfl, by omega, hs.skip hsn, htk, by omega, by omega, by simp [forget, get], by simp⟩
    ·have hc : seen.contains n.id = false := by simpa using hsn
     rw [hc]
     simp -dsimp (disch := first | assumption | omega | (simp only [Ad]; done) | (simp only [Ad]; omega)) only [↓Ah, Ae, Ag, Ai, eq_self, forall_const, Nat.reduceLT, Nat.reduceEqDiff, Nat.reduceSub, Nat.reduceMul, Nat.reduceMod, Nat.reduceDiv, Nat.reducePow, UInt8.reduceToNat, Int.reduceEq, Int.reduceLT, Int.reduceLE, ↓reduceIte, Nat.reduceAdd, Int.reduceToNat, reduceCtorEq, Nat.reduceLeDiff, ↓Bv, hlook, AP, Bf, hg, hm, Aj3 hsn]
     have hlt := YM.le hok.1.nodup (todo := t) hn hsn
     have htake := hs.take hsn
     rw [hpo] at htake
     rw [htk, ← List.map_append]
     exact AY _ hlt (by rw [hH0]; simp) ⟨seen ++ [n.id], t ++ n.ps, v + 1, t.length + n.ps.length, t.length + n.ps.length, (t ++ n.ps).map idT, T ++ [Ob.obj 0 (.arr 20 1 (n.id.map by8))] ++ T', rfl, by omega, htake, by rw [List.take_of_length_le (by simp)], by simp, by simp, by simp [forget, get], by simp⟩
 refine UA (by simp) ?_
 simp -dsimp (disch := first | assumption | omega | (simp only [Ad]; done) | (simp only [Ad]; omega)) only [↓Ah, Ae, Ag, Ai, eq_self, forall_const, Nat.reduceLT, Nat.reduceEqDiff, Nat.reduceSub, Nat.reduceMul, Nat.reduceMod, Nat.reduceDiv, Nat.reducePow, UInt8.reduceToNat, Int.reduceEq, Int.reduceLT, Int.reduceLE, ↓reduceIte, Nat.reduceAdd, Int.reduceToNat, reduceCtorEq, Nat.reduceLeDiff, ↓Bv, hA1]
 refine BQ (hA _ (fun hS0 => ?_) ?_)
 ·subst hS0
  simp -dsimp (disch := first | assumption | omega | (simp only [Ad]; done) | (simp only [Ad]; omega)) only [↓Ah, Ae, Ag, Ai, eq_self, forall_const, Nat.reduceLT, Nat.reduceEqDiff, Nat.reduceSub, Nat.reduceMul, Nat.reduceMod, Nat.reduceDiv, Nat.reducePow, UInt8.reduceToNat, Int.reduceEq, Int.reduceLT, Int.reduceLE, ↓reduceIte, Nat.reduceAdd, Int.reduceToNat, reduceCtorEq, Nat.reduceLeDiff, ↓Bv]
  exact loop _ _ 0 0 0 [] (by simp) (by simp [forget, get]) rfl (by simp) (by simp)
 ·simp -dsimp (disch := first | assumption | omega | (simp only [Ad]; done) | (simp only [Ad]; omega)) only [↓Ah, Ae, Ag, Ai, eq_self, forall_const, Nat.reduceLT, Nat.reduceEqDiff, Nat.reduceSub, Nat.reduceMul, Nat.reduceMod, Nat.reduceDiv, Nat.reducePow, UInt8.reduceToNat, Int.reduceEq, Int.reduceLT, Int.reduceLE, ↓reduceIte, Nat.reduceAdd, Int.reduceToNat, reduceCtorEq, Nat.reduceLeDiff, ↓Bv]
  exact loop _ _ 1 S.length S.length (S.map idT) (by simp) (by simp [forget, get]) (by rw [List.take_of_length_le (by simp)]) (by simp) (by simp)
theorem ApB {ids : List (List UInt8)} (hlen : ids.length ≤ 100000) (h0 : ids.length ≠ 0) {H : List Ob} {id ver N cp : Nat} (hid : H[id]? = some (.obj ver (.arr N 20 (ids.map idT)))) {K : TV → List Ob → Prop} (h1 : K (.os 20 H.length 1 [] 0 ids.length ids.length) (H ++ [.obj 1 (.arr ids.length 20 (ids.map idT))])) :
  Aq Tryd.prog 38 [.os 20 id ver [] 0 ids.length cp] H K := by
 have h3 := Ap hid
 refine Cc (by simp) ?_
 have htk : (ids.map idT).take ids.length = ids.map idT := List.take_of_length_le (by simp)
 simp -dsimp (disch := first | assumption | omega | (simp only [Ad]; done) | (simp only [Ad]; omega)) only [↓Ah, Ae, Ag, Ai, eq_self, forall_const, Nat.reduceLT, Nat.reduceEqDiff, Nat.reduceSub, Nat.reduceMul, Nat.reduceMod, Nat.reduceDiv, Nat.reducePow, UInt8.reduceToNat, Int.reduceEq, Int.reduceLT, Int.reduceLE, ↓reduceIte, Nat.reduceAdd, Int.reduceToNat, reduceCtorEq, Nat.reduceLeDiff, ↓AA, hid]
 simpa [htk] using h1
end Go.Proofs.YtingoaihnlhiaaaDoor


namespace Go.Proofs.YtingoaihnlhiaaaDoor
open Go.RowKit
variable [Bc]
set_option linter.unusedSectionVars false
set_option linter.unusedVariables false
set_option linter.unusedSimpArgs false

theorem AmC {n : Nd} {k : Nat} : shT k (ndT n) = ndT n := by rw [Bf]; simp [shT, shL]
theorem AdS {k : Nat} {q : List UInt8} {x : TV} (hx : shT k x = x) : ∀ {es : List (List UInt8 × TV)}, AdP k es = es → AdP k (Hg q x es) = Hg q x es
 | [], _ => by simp [Hg, AdP, hx]
 | e :: es, h => by
  rw [AdP] at h
  have h1 := (List.cons.inj h).1
  have h2 := (List.cons.inj h).2
  obtain ⟨a, y⟩ := e
  rw [Hg]
  split
  ·rw [AdP, hx, h2]
  ·rw [AdP, h1, AdS hx h2]
theorem AeS {k : Nat} : ∀ (l : List Nd), AdP k (AZ l) = AZ l := by
 refine Zb ?_ fun l n ih => ?_
 ·rw [AZ, List.foldl_nil, AdP]
 ·rw [LM]; exact AdS AmC ih
/-- of, among objects. -/
theorem ofH (l : List Nd) (hl : l.length ≤ 1000) (hp : ∀ n ∈ l, n.ps.length ≤ 1000) (ids : List (List UInt8)) (hlen : ids.length ≤ 100000) {H : List Ob} {K : TV → List Ob → Prop}
  (h1 : Abd l ids → ∀ T, K (.tup [.op (1 + H.length) 0 [], .val .nilIface]) (H ++ [.mpo (.arr 20) (AZ l), .obj 0 (.agg [.mp (0 + H.length) 0, .val (.map none)])] ++ T))
  (h2 : ¬ Abd l ids → ∀ g H', K (.tup [g, .ifc 36 (i64 ((80 : Nat) : Int))]) H') : Aq Tryd.prog 19 [.sl 22 (l.map ndT), .sl 20 (ids.map idT)] H K := by
 refine (ofV l hl hp ids hlen).behind rfl ?_
 rintro x H' ⟨k1, k2⟩
 by_cases h : Abd l ids
 ·obtain ⟨rfl, T, rfl⟩ := k1 h
  have := h1 h (T.map (shO H.length))
  simpa [shT, shL, shO, AeS] using this
 ·obtain ⟨g, rfl⟩ := k2 h
  have := h2 h (shT H.length g) (H ++ H'.map (shO H.length))
  simpa [shT, shL] using this
noncomputable def dec (p : Prop) : Bool := @decide p (Classical.propDecidable p)
theorem Ao9 {p : Prop} (h : p) : dec p = true := by unfold dec; simpa using h
theorem Aow {p : Prop} (h : ¬ p) : dec p = false := by unfold dec; simpa using h
theorem AdW (l : List Nd) (hl : l.length ≤ 1000) (hp : ∀ n ∈ l, n.ps.length ≤ 1000) (a b : List UInt8) : Gh Tryd.prog 13 [.sl 22 (l.map ndT), idT a, idT b] (fun r =>
  (Abd l [a, b] → r = .tup [tb (dec (Rc l [a] b)), .val .nilIface]) ∧ (¬ Abd l [a, b] → r = .tup [tb false, .ifc 36 (i64 ((80 : Nat) : Int))])) := by
 refine Aq.toPureV (YT (by simp) ?_)
 simp -dsimp (disch := first | assumption | omega | (simp only [Ad]; done) | (simp only [Ad]; omega)) only [↓Ah, Ae, Ag, Ai, eq_self, forall_const, Nat.reduceLT, Nat.reduceEqDiff, Nat.reduceSub, Nat.reduceMul, Nat.reduceMod, Nat.reduceDiv, Nat.reducePow, UInt8.reduceToNat, Int.reduceEq, Int.reduceLT, Int.reduceLE, ↓reduceIte, Nat.reduceAdd, Int.reduceToNat, reduceCtorEq, Nat.reduceLeDiff, ↓Eu, AP]
 refine AlE (by rfl) (by rfl) (by simp) ?_
 simp -dsimp (disch := first | assumption | omega | (simp only [Ad]; done) | (simp only [Ad]; omega)) only [↓Ah, Ae, Ag, Ai, eq_self, forall_const, Nat.reduceLT, Nat.reduceEqDiff, Nat.reduceSub, Nat.reduceMul, Nat.reduceMod, Nat.reduceDiv, Nat.reducePow, UInt8.reduceToNat, Int.reduceEq, Int.reduceLT, Int.reduceLE, ↓reduceIte, Nat.reduceAdd, Int.reduceToNat, reduceCtorEq, Nat.reduceLeDiff, ↓Eu, Anc]
 refine BQ (show Aq _ _ [.sl 22 (l.map ndT), .sl 20 ([a, b].map idT)] _ _ from ofH l hl hp [a, b] (by simp) (fun hok T => ?_) (fun hno g H' => ?_))
 ·simp -dsimp (disch := first | assumption | omega | (simp only [Ad]; done) | (simp only [Ad]; omega)) only [↓Ah, Ae, Ag, Ai, eq_self, forall_const, Nat.reduceLT, Nat.reduceEqDiff, Nat.reduceSub, Nat.reduceMul, Nat.reduceMod, Nat.reduceDiv, Nat.reducePow, UInt8.reduceToNat, Int.reduceEq, Int.reduceLT, Int.reduceLE, ↓reduceIte, Nat.reduceAdd, Int.reduceToNat, reduceCtorEq, Nat.reduceLeDiff, ↓Eu]
  have hin : ∀ x ∈ [a], x ∈ AL l := fun x hx => by
   rw [List.mem_singleton] at hx; subst hx
   have := List.all_eq_true.1 hok.2 x (by simp)
   exact MR.1 this
  refine Aq.callsP (UU hok.1 hl hp (S := [a]) (by simp) hin (gi := 4) (mi := 3) rfl rfl rfl (fun K _ h1 => ApB (ids := [a]) (ver := 0) (N := 1) (by simp) (by simp) (by simp [AP]) h1) (fun seen T' hnd hmem => ⟨?_, ?_⟩))
  ·simp -dsimp (disch := first | assumption | omega | (simp only [Ad]; done) | (simp only [Ad]; omega)) only [↓Ah, Ae, Ag, Ai, eq_self, forall_const, Nat.reduceLT, Nat.reduceEqDiff, Nat.reduceSub, Nat.reduceMul, Nat.reduceMod, Nat.reduceDiv, Nat.reducePow, UInt8.reduceToNat, Int.reduceEq, Int.reduceLT, Int.reduceLE, ↓reduceIte, Nat.reduceAdd, Int.reduceToNat, reduceCtorEq, Nat.reduceLeDiff, ↓Eu]
   refine Aq.callsP (AqR (es := Ko seen) (by simp) VT b fun T2 => ⟨?_, ?_⟩)
   ·have hc : (seen.contains b) = dec (Rc l [a] b) := by
     by_cases h : Rc l [a] b
     ·rw [Ao9 h]; simpa using (hmem b).2 h
     ·rw [Aow h]; simpa using fun h2 => h ((hmem b).1 h2)
    rw [Ot, hc]
    simp -dsimp (disch := first | assumption | omega | (simp only [Ad]; done) | (simp only [Ad]; omega)) only [↓Ah, Ae, Ag, Ai, eq_self, forall_const, Nat.reduceLT, Nat.reduceEqDiff, Nat.reduceSub, Nat.reduceMul, Nat.reduceMod, Nat.reduceDiv, Nat.reducePow, UInt8.reduceToNat, Int.reduceEq, Int.reduceLT, Int.reduceLE, ↓reduceIte, Nat.reduceAdd, Int.reduceToNat, reduceCtorEq, Nat.reduceLeDiff, ↓Eu]
    exact ⟨fun _ => trivial, fun h => absurd hok h⟩
   ·change VZ [4, 5] _ _ _
    exact TM rfl rfl (TM rfl rfl Y9)
  ·change VZ [4, 5] _ _ _
   exact TM rfl rfl (TM rfl rfl Y9)
 ·simp -dsimp (disch := first | assumption | omega | (simp only [Ad]; done) | (simp only [Ad]; omega)) only [↓Ah, Ae, Ag, Ai, eq_self, forall_const, Nat.reduceLT, Nat.reduceEqDiff, Nat.reduceSub, Nat.reduceMul, Nat.reduceMod, Nat.reduceDiv, Nat.reducePow, UInt8.reduceToNat, Int.reduceEq, Int.reduceLT, Int.reduceLE, ↓reduceIte, Nat.reduceAdd, Int.reduceToNat, reduceCtorEq, Nat.reduceLeDiff, ↓Eu]
  exact ⟨fun h => absurd h hno, fun _ => trivial⟩
end Go.Proofs.YtingoaihnlhiaaaDoor


namespace Go.Proofs.YtingoaihnlhiaaaDoor
open Go.RowKit
variable [Bc]
set_option linter.unusedSectionVars false
set_option linter.unusedVariables false
set_option linter.unusedSimpArgs false
set_option autoImplicit false

/-- Nothing that is left has it aS a parent. -/
def Fre (l : List Nd) (S : List UInt8 → Prop) (x : List UInt8) : Prop := S x ∧ ∀ y, S y → ¬ x ∈ pOf l y
theorem Fre.congr {l : List Nd} {S T : List UInt8 → Prop} (h : ∀ x, S x ↔ T x) {x : List UInt8} : Fre l S x ↔ Fre l T x := by
 unfold Fre
 rw [h x]
 exact and_congr Iff.rfl ⟨fun k y hy => k y ((h y).2 hy), fun k y hy => k y ((h y).1 hy)⟩
/-- The nodes of some, one behind the other: each time the first one of those that are free. -/
inductive AdU (l : List Nd) : (List UInt8 → Prop) → List (List UInt8) → Prop
 | none {S : List UInt8 → Prop} : (∀ x, ¬ Fre l S x) → AdU l S []
 | take {S : List UInt8 → Prop} {n : Nd} {ids : List (List UInt8)} : n ∈ l → Fre l S n.id → (∀ m ∈ l, Fre l S m.id → m.id ≠ n.id → Wh n m = true) → AdU l (fun y => S y ∧ y ≠ n.id) ids → AdU l S (n.id :: ids)
theorem AdU.congr {l : List Nd} {S : List UInt8 → Prop} {ids : List (List UInt8)} (h : AdU l S ids) : ∀ {T : List UInt8 → Prop}, (∀ x, S x ↔ T x) → AdU l T ids := by
 induction h with
 | none h1 => exact fun e => .none fun x hx => h1 x ((Fre.congr e).2 hx)
 | take h1 h2 h3 _ ih => exact fun e => .take h1 ((Fre.congr e).1 h2) (fun m hm hf hne => h3 m hm ((Fre.congr e).2 hf) hne) (ih fun x => and_congr (e x) Iff.rfl)
/-- What some reach, and others don't. -/
def Ao2 (l : List Nd) (a b : List (List UInt8)) (x : List UInt8) : Prop := Rc l a x ∧ ¬ Rc l b x
end Go.Proofs.YtingoaihnlhiaaaDoor


namespace Go.Proofs.YtingoaihnlhiaaaDoor
open Go.RowKit
variable [Bc]
set_option linter.unusedSectionVars false
set_option linter.unusedVariables false
set_option linter.unusedSimpArgs false

theorem Asb : Aej Tryd.prog 64 "Len" = some (23, some (false, 1)) := by kernel_rfl
theorem Af7 : Aej Tryd.prog 64 "Less" = some (94, some (false, 1)) := by kernel_rfl
theorem AfO : Aej Tryd.prog 64 "Swap" = some (97, some (false, 1)) := by kernel_rfl
theorem ArC : Aej Tryd.prog 64 "Push" = some (96, none) := by kernel_rfl
theorem A3c : Aej Tryd.prog 64 "Pop" = some (95, none) := by kernel_rfl
theorem ArZ : Ue Tryd.prog 23 = true := by kernel_rfl
theorem Ahm : Ue Tryd.prog 94 = true := by kernel_rfl
theorem AhS : Ue Tryd.prog 97 = true := by kernel_rfl
theorem AsH : Ue Tryd.prog 96 = true := by kernel_rfl
theorem A29 : Ue Tryd.prog 95 = true := by kernel_rfl
theorem Qu.bound {H : List Ob} {q r n : Nat} {f : Nat → Nd} (h : Qu H q r n f) : n ≤ 100000 := by
 obtain ⟨_, _, _, ⟨_, _, _, _, h, _⟩, _⟩ := h; exact h
theorem Qu.set {H : List Ob} {q r n v cp : Nat} {g : Nat → Nd} {o : Ob} (hq : H[q]? = some (.obj 0 (.os 22 r v [] 0 n cp))) (hcp : n ≤ cp) (hne : q ≠ r) (h : ZB (H.set r o) r v n g) : Qu (H.set r o) q r n g := ⟨v, cp, by rw [List.getElem?_set_ne (Ne.symm hne)]; exact hq, h, hcp, hne⟩

theorem Aoo {H : List Ob} {q r N n i0 : Nat} {f : Nat → Nd} (hQ : Qu H q r N f) (hn : n ≤ N) (hp : Hp (i0 + 1) n f) (hi0 : i0 ≤ 100000) {K : TV → List Ob → Prop}
  (hK : ∀ H' f' b, Qu H' q r N f' → Fq q r H H' → Sh N f f' → (∀ k, n ≤ k → f' k = f k) → Hp i0 n f' → K (tb b) H') : Aq Tryd.prog 39 [.ifc 64 (.op q 0 []), i64 ((i0 : Nat) : Int), i64 ((n : Nat) : Int)] H K := by
 have hb := hQ.bound
 refine Rq (by simp) ?_
 simp -dsimp (disch := first | assumption | omega | (simp only [Ad]; done) | (simp only [Ad]; omega)) only [↓Ah, Ae, Ag, Ai, eq_self, forall_const, Nat.reduceLT, Nat.reduceEqDiff, Nat.reduceSub, Nat.reduceMul, Nat.reduceMod, Nat.reduceDiv, Nat.reducePow, UInt8.reduceToNat, Int.reduceEq, Int.reduceLT, Int.reduceLE, ↓reduceIte, Nat.reduceAdd, Int.reduceToNat, reduceCtorEq, Nat.reduceLeDiff, ↓Au]
 refine BN (fun m e H' => ∃ (i : Nat) (f1 : Nat → Nd), m = n - i ∧ i0 ≤ i ∧ i ≤ 100000 ∧ Dn i0 n f1 i ∧ Qu H' q r N f1 ∧ Fq q r H H' ∧ Sh N f f1 ∧ (∀ k, n ≤ k → f1 k = f k) ∧ e = [(0, .ifc 64 (.op q 0 [])), (1, i64 ((i0 : Nat) : Int)), (2, i64 ((n : Nat) : Int)), (7, i64 ((i : Nat) : Int))]) (n - i0) ?_ ?_
 ·exact ⟨i0, f, rfl, Nat.le_refl _, hi0, Dn.start hp, hQ, Fq.refl, Sh.refl _ _, fun _ _ => rfl, rfl⟩
 ·rintro m e H1 ⟨i, f1, rfl, hi, hib, hD, hQ1, hF, hS, ht, rfl⟩
  by_cases hlast : n ≤ 2 * i + 1
  ·simp -dsimp (disch := first | assumption | omega | (simp only [Ad]; done) | (simp only [Ad]; omega)) only [↓Ah, Ae, Ag, Ai, eq_self, forall_const, Nat.reduceLT, Nat.reduceEqDiff, Nat.reduceSub, Nat.reduceMul, Nat.reduceMod, Nat.reduceDiv, Nat.reducePow, UInt8.reduceToNat, Int.reduceEq, Int.reduceLT, Int.reduceLE, ↓reduceIte, Nat.reduceAdd, Int.reduceToNat, reduceCtorEq, Nat.reduceLeDiff, ↓Au]
   exact hK _ _ _ hQ1 hF hS ht (hD.last hlast)
  have hQ1' := hQ1
  obtain ⟨v, cp, hq, hrow, hcp, hne⟩ := hQ1
  have hql := Ap hq
  have hD1 : ∀ d, 0 < d → (d - 1) / 2 = i → d = 2 * i + 1 ∨ d = 2 * i + 1 + 1 := by omega
  by_cases h2 : 2 * i + 1 + 1 < n
  ·simp -dsimp (disch := first | assumption | omega | (simp only [Ad]; done) | (simp only [Ad]; omega)) only [↓Ah, Ae, Ag, Ai, eq_self, forall_const, Nat.reduceLT, Nat.reduceEqDiff, Nat.reduceSub, Nat.reduceMul, Nat.reduceMod, Nat.reduceDiv, Nat.reducePow, UInt8.reduceToNat, Int.reduceEq, Int.reduceLT, Int.reduceLE, ↓reduceIte, Nat.reduceAdd, Int.reduceToNat, reduceCtorEq, Nat.reduceLeDiff, ↓Au, Af7, Ahm, hq]
   refine BQ (Agb hrow (i := 2 * i + 1 + 1) (j := 2 * i + 1) (by omega) (by omega) fun T => ?_)
   cases hl : Wh (f1 (2 * i + 1 + 1)) (f1 (2 * i + 1)) with
   | true =>
    simp -dsimp (disch := first | assumption | omega | (simp only [Ad]; done) | (simp only [Ad]; omega)) only [↓Ah, Ae, Ag, Ai, eq_self, forall_const, Nat.reduceLT, Nat.reduceEqDiff, Nat.reduceSub, Nat.reduceMul, Nat.reduceMod, Nat.reduceDiv, Nat.reducePow, UInt8.reduceToNat, Int.reduceEq, Int.reduceLT, Int.reduceLE, ↓reduceIte, Nat.reduceAdd, Int.reduceToNat, reduceCtorEq, Nat.reduceLeDiff, ↓Au, Af7, Ahm, hq, Vb]
    have hch : ∀ d, 0 < d → d < n → (d - 1) / 2 = i → Ra (f1 (2 * i + 1 + 1)) (f1 d) := fun d d1 d2 d3 => by
      rcases hD1 d d1 d3 with rfl | rfl
      ·exact Ra.of_less hl
      ·exact Ra.refl _
    refine BQ (Agb (hrow.app) (i := 2 * i + 1 + 1) (j := i) (by omega) (by omega) fun T2 => ?_)
    cases hl2 : Wh (f1 (2 * i + 1 + 1)) (f1 i) with
    | false =>
     simp -dsimp (disch := first | assumption | omega | (simp only [Ad]; done) | (simp only [Ad]; omega)) only [↓Ah, Ae, Ag, Ai, eq_self, forall_const, Nat.reduceLT, Nat.reduceEqDiff, Nat.reduceSub, Nat.reduceMul, Nat.reduceMod, Nat.reduceDiv, Nat.reducePow, UInt8.reduceToNat, Int.reduceEq, Int.reduceLT, Int.reduceLE, ↓reduceIte, Nat.reduceAdd, Int.reduceToNat, reduceCtorEq, Nat.reduceLeDiff, ↓Au]
     exact hK _ _ _ (Qu.app (Qu.app hQ1')) ((hF.trans (Fq.app (T := T))).trans Fq.app) hS ht (hD.done hch hl2)
    | true =>
     simp -dsimp (disch := first | assumption | omega | (simp only [Ad]; done) | (simp only [Ad]; omega)) only [↓Ah, Ae, Ag, Ai, eq_self, forall_const, Nat.reduceLT, Nat.reduceEqDiff, Nat.reduceSub, Nat.reduceMul, Nat.reduceMod, Nat.reduceDiv, Nat.reducePow, UInt8.reduceToNat, Int.reduceEq, Int.reduceLT, Int.reduceLE, ↓reduceIte, Nat.reduceAdd, Int.reduceToNat, reduceCtorEq, Nat.reduceLeDiff, ↓Au, AfO, AhS, hq, Vb]
     refine BQ (AgQ (ZB.app (hrow.app)) (i := i) (j := 2 * i + 1 + 1) (by omega) (by omega) fun o hro => ?_)
     simp -dsimp (disch := first | assumption | omega | (simp only [Ad]; done) | (simp only [Ad]; omega)) only [↓Ah, Ae, Ag, Ai, eq_self, forall_const, Nat.reduceLT, Nat.reduceEqDiff, Nat.reduceSub, Nat.reduceMul, Nat.reduceMod, Nat.reduceDiv, Nat.reducePow, UInt8.reduceToNat, Int.reduceEq, Int.reduceLT, Int.reduceLE, ↓reduceIte, Nat.reduceAdd, Int.reduceToNat, reduceCtorEq, Nat.reduceLeDiff, ↓Au]
     exact AY (n - (2 * i + 1 + 1)) (by omega) (by have := hF.1; simp; omega) ⟨2 * i + 1 + 1, sw f1 i (2 * i + 1 + 1), rfl, by omega, by omega, hD.step hi (by omega) (by omega) (by omega) hch hl2, Qu.set (by rw [List.append_assoc, A7 hql]; exact hq) hcp hne hro, ((hF.trans (Fq.app (T := T))).trans Fq.app).trans Fq.setr, hS.trans (Sh.sw f1 (by omega) (by omega)), fun k hk => by rw [Ads (by omega) (by omega)]; exact ht k hk, by simp [forget, get]⟩
   | false =>
    simp -dsimp (disch := first | assumption | omega | (simp only [Ad]; done) | (simp only [Ad]; omega)) only [↓Ah, Ae, Ag, Ai, eq_self, forall_const, Nat.reduceLT, Nat.reduceEqDiff, Nat.reduceSub, Nat.reduceMul, Nat.reduceMod, Nat.reduceDiv, Nat.reducePow, UInt8.reduceToNat, Int.reduceEq, Int.reduceLT, Int.reduceLE, ↓reduceIte, Nat.reduceAdd, Int.reduceToNat, reduceCtorEq, Nat.reduceLeDiff, ↓Au, Af7, Ahm, hq, Vb]
    have hch : ∀ d, 0 < d → d < n → (d - 1) / 2 = i → Ra (f1 (2 * i + 1)) (f1 d) := fun d d1 d2 d3 => by
      rcases hD1 d d1 d3 with rfl | rfl
      ·exact Ra.refl _
      ·exact hl
    refine BQ (Agb (hrow.app) (i := 2 * i + 1) (j := i) (by omega) (by omega) fun T2 => ?_)
    cases hl2 : Wh (f1 (2 * i + 1)) (f1 i) with
    | false =>
     simp -dsimp (disch := first | assumption | omega | (simp only [Ad]; done) | (simp only [Ad]; omega)) only [↓Ah, Ae, Ag, Ai, eq_self, forall_const, Nat.reduceLT, Nat.reduceEqDiff, Nat.reduceSub, Nat.reduceMul, Nat.reduceMod, Nat.reduceDiv, Nat.reducePow, UInt8.reduceToNat, Int.reduceEq, Int.reduceLT, Int.reduceLE, ↓reduceIte, Nat.reduceAdd, Int.reduceToNat, reduceCtorEq, Nat.reduceLeDiff, ↓Au]
     exact hK _ _ _ (Qu.app (Qu.app hQ1')) ((hF.trans (Fq.app (T := T))).trans Fq.app) hS ht (hD.done hch hl2)
    | true =>
     simp -dsimp (disch := first | assumption | omega | (simp only [Ad]; done) | (simp only [Ad]; omega)) only [↓Ah, Ae, Ag, Ai, eq_self, forall_const, Nat.reduceLT, Nat.reduceEqDiff, Nat.reduceSub, Nat.reduceMul, Nat.reduceMod, Nat.reduceDiv, Nat.reducePow, UInt8.reduceToNat, Int.reduceEq, Int.reduceLT, Int.reduceLE, ↓reduceIte, Nat.reduceAdd, Int.reduceToNat, reduceCtorEq, Nat.reduceLeDiff, ↓Au, AfO, AhS, hq, Vb]
     refine BQ (AgQ (ZB.app (hrow.app)) (i := i) (j := 2 * i + 1) (by omega) (by omega) fun o hro => ?_)
     simp -dsimp (disch := first | assumption | omega | (simp only [Ad]; done) | (simp only [Ad]; omega)) only [↓Ah, Ae, Ag, Ai, eq_self, forall_const, Nat.reduceLT, Nat.reduceEqDiff, Nat.reduceSub, Nat.reduceMul, Nat.reduceMod, Nat.reduceDiv, Nat.reducePow, UInt8.reduceToNat, Int.reduceEq, Int.reduceLT, Int.reduceLE, ↓reduceIte, Nat.reduceAdd, Int.reduceToNat, reduceCtorEq, Nat.reduceLeDiff, ↓Au]
     exact AY (n - (2 * i + 1)) (by omega) (by have := hF.1; simp; omega) ⟨2 * i + 1, sw f1 i (2 * i + 1), rfl, by omega, by omega, hD.step hi (by omega) (by omega) (by omega) hch hl2, Qu.set (by rw [List.append_assoc, A7 hql]; exact hq) hcp hne hro, ((hF.trans (Fq.app (T := T))).trans Fq.app).trans Fq.setr, hS.trans (Sh.sw f1 (by omega) (by omega)), fun k hk => by rw [Ads (by omega) (by omega)]; exact ht k hk, by simp [forget, get]⟩
  ·simp -dsimp (disch := first | assumption | omega | (simp only [Ad]; done) | (simp only [Ad]; omega)) only [↓Ah, Ae, Ag, Ai, eq_self, forall_const, Nat.reduceLT, Nat.reduceEqDiff, Nat.reduceSub, Nat.reduceMul, Nat.reduceMod, Nat.reduceDiv, Nat.reducePow, UInt8.reduceToNat, Int.reduceEq, Int.reduceLT, Int.reduceLE, ↓reduceIte, Nat.reduceAdd, Int.reduceToNat, reduceCtorEq, Nat.reduceLeDiff, ↓Au, Af7, Ahm, hq]
   have hch : ∀ d, 0 < d → d < n → (d - 1) / 2 = i → Ra (f1 (2 * i + 1)) (f1 d) := fun d d1 d2 d3 => by
     rcases hD1 d d1 d3 with rfl | rfl
     ·exact Ra.refl _
     ·omega
   refine BQ (Agb (hrow) (i := 2 * i + 1) (j := i) (by omega) (by omega) fun T2 => ?_)
   cases hl2 : Wh (f1 (2 * i + 1)) (f1 i) with
   | false =>
    simp -dsimp (disch := first | assumption | omega | (simp only [Ad]; done) | (simp only [Ad]; omega)) only [↓Ah, Ae, Ag, Ai, eq_self, forall_const, Nat.reduceLT, Nat.reduceEqDiff, Nat.reduceSub, Nat.reduceMul, Nat.reduceMod, Nat.reduceDiv, Nat.reducePow, UInt8.reduceToNat, Int.reduceEq, Int.reduceLT, Int.reduceLE, ↓reduceIte, Nat.reduceAdd, Int.reduceToNat, reduceCtorEq, Nat.reduceLeDiff, ↓Au]
    exact hK _ _ _ (Qu.app hQ1') (hF.trans Fq.app) hS ht (hD.done hch hl2)
   | true =>
    simp -dsimp (disch := first | assumption | omega | (simp only [Ad]; done) | (simp only [Ad]; omega)) only [↓Ah, Ae, Ag, Ai, eq_self, forall_const, Nat.reduceLT, Nat.reduceEqDiff, Nat.reduceSub, Nat.reduceMul, Nat.reduceMod, Nat.reduceDiv, Nat.reducePow, UInt8.reduceToNat, Int.reduceEq, Int.reduceLT, Int.reduceLE, ↓reduceIte, Nat.reduceAdd, Int.reduceToNat, reduceCtorEq, Nat.reduceLeDiff, ↓Au, AfO, AhS, hq, Vb]
    refine BQ (AgQ (ZB.app (hrow)) (i := i) (j := 2 * i + 1) (by omega) (by omega) fun o hro => ?_)
    simp -dsimp (disch := first | assumption | omega | (simp only [Ad]; done) | (simp only [Ad]; omega)) only [↓Ah, Ae, Ag, Ai, eq_self, forall_const, Nat.reduceLT, Nat.reduceEqDiff, Nat.reduceSub, Nat.reduceMul, Nat.reduceMod, Nat.reduceDiv, Nat.reducePow, UInt8.reduceToNat, Int.reduceEq, Int.reduceLT, Int.reduceLE, ↓reduceIte, Nat.reduceAdd, Int.reduceToNat, reduceCtorEq, Nat.reduceLeDiff, ↓Au]
    exact AY (n - (2 * i + 1)) (by omega) (by have := hF.1; simp; omega) ⟨2 * i + 1, sw f1 i (2 * i + 1), rfl, by omega, by omega, hD.step hi (by omega) (by omega) (by omega) hch hl2, Qu.set (by rw [A7 hql]; exact hq) hcp hne hro, (hF.trans Fq.app).trans Fq.setr, hS.trans (Sh.sw f1 (by omega) (by omega)), fun k hk => by rw [Ads (by omega) (by omega)]; exact ht k hk, by simp [forget, get]⟩
theorem upV {H : List Ob} {q r n j0 : Nat} {f : Nat → Nd} (hQ : Qu H q r n f) (hp : Up n f j0) (hj0 : j0 < n) {K : TV → List Ob → Prop}
  (hK : ∀ H' f', Qu H' q r n f' → Fq q r H H' → Sh n f f' → Hp 0 n f' → K (.tup []) H') : Aq Tryd.prog 40 [.ifc 64 (.op q 0 []), i64 ((j0 : Nat) : Int)] H K := by
 have hb := hQ.bound
 refine Uk (by simp) ?_
 simp -dsimp (disch := first | assumption | omega | (simp only [Ad]; done) | (simp only [Ad]; omega)) only [↓Ah, Ae, Ag, Ai, eq_self, forall_const, Nat.reduceLT, Nat.reduceEqDiff, Nat.reduceSub, Nat.reduceMul, Nat.reduceMod, Nat.reduceDiv, Nat.reducePow, UInt8.reduceToNat, Int.reduceEq, Int.reduceLT, Int.reduceLE, ↓reduceIte, Nat.reduceAdd, Int.reduceToNat, reduceCtorEq, Nat.reduceLeDiff, ↓BM]
 refine BN (fun m e H' => ∃ (j : Nat) (f1 : Nat → Nd), m = j ∧ j < n ∧ Up n f1 j ∧ Qu H' q r n f1 ∧ Fq q r H H' ∧ Sh n f f1 ∧ e = [(0, .ifc 64 (.op q 0 [])), (1, i64 ((j : Nat) : Int))]) j0 ?_ ?_
 ·exact ⟨j0, f, rfl, hj0, hp, hQ, Fq.refl, Sh.refl _ _, rfl⟩
 ·rintro j e H1 ⟨_, f1, rfl, hj, hU, hQ1, hF, hS, rfl⟩
  rcases Nat.eq_zero_or_pos j with rfl | hpos
  ·have hq0 : KX 3 .quo (.int .i64 (((0 : Nat) : Int) - ((1 : Nat) : Int))) (.int .i64 ((2 : Nat) : Int)) = some (.int .i64 ((0 : Nat) : Int)) := by rfl
   simp -dsimp (disch := first | assumption | omega | (simp only [Ad]; done) | (simp only [Ad]; omega)) only [↓Ah, Ae, Ag, Ai, eq_self, forall_const, Nat.reduceLT, Nat.reduceEqDiff, Nat.reduceSub, Nat.reduceMul, Nat.reduceMod, Nat.reduceDiv, Nat.reducePow, UInt8.reduceToNat, Int.reduceEq, Int.reduceLT, Int.reduceLE, ↓reduceIte, Nat.reduceAdd, Int.reduceToNat, reduceCtorEq, Nat.reduceLeDiff, ↓BM, hq0]
   exact hK _ _ hQ1 hF hS hU.top
  ·have hQ1' := hQ1
   obtain ⟨v, cp, hq, hrow, hcp, hne⟩ := hQ1
   have hql := Ap hq
   have hij : (j - 1) / 2 < j := by omega
   have hne2 : ¬ (j - 1) / 2 = j := by omega
   simp -dsimp (disch := first | assumption | omega | (simp only [Ad]; done) | (simp only [Ad]; omega)) only [↓Ah, Ae, Ag, Ai, eq_self, forall_const, Nat.reduceLT, Nat.reduceEqDiff, Nat.reduceSub, Nat.reduceMul, Nat.reduceMod, Nat.reduceDiv, Nat.reducePow, UInt8.reduceToNat, Int.reduceEq, Int.reduceLT, Int.reduceLE, ↓reduceIte, Nat.reduceAdd, Int.reduceToNat, reduceCtorEq, Nat.reduceLeDiff, ↓BM, Af7, Ahm, hq]
   refine BQ (Agb hrow (i := j) (j := (j - 1) / 2) hj (by omega) fun T => ?_)
   cases hl : Wh (f1 j) (f1 ((j - 1) / 2)) with
   | false =>
    simp -dsimp (disch := first | assumption | omega | (simp only [Ad]; done) | (simp only [Ad]; omega)) only [↓Ah, Ae, Ag, Ai, eq_self, forall_const, Nat.reduceLT, Nat.reduceEqDiff, Nat.reduceSub, Nat.reduceMul, Nat.reduceMod, Nat.reduceDiv, Nat.reducePow, UInt8.reduceToNat, Int.reduceEq, Int.reduceLT, Int.reduceLE, ↓reduceIte, Nat.reduceAdd, Int.reduceToNat, reduceCtorEq, Nat.reduceLeDiff, ↓BM]
    exact hK _ _ hQ1'.app (hF.trans Fq.app) hS (hU.done hl)
   | true =>
    simp -dsimp (disch := first | assumption | omega | (simp only [Ad]; done) | (simp only [Ad]; omega)) only [↓Ah, Ae, Ag, Ai, eq_self, forall_const, Nat.reduceLT, Nat.reduceEqDiff, Nat.reduceSub, Nat.reduceMul, Nat.reduceMod, Nat.reduceDiv, Nat.reducePow, UInt8.reduceToNat, Int.reduceEq, Int.reduceLT, Int.reduceLE, ↓reduceIte, Nat.reduceAdd, Int.reduceToNat, reduceCtorEq, Nat.reduceLeDiff, ↓BM, AfO, AhS, hq, Vb]
    refine BQ (AgQ hrow.app (i := (j - 1) / 2) (j := j) (by omega) hj fun o hro => ?_)
    simp -dsimp (disch := first | assumption | omega | (simp only [Ad]; done) | (simp only [Ad]; omega)) only [↓Ah, Ae, Ag, Ai, eq_self, forall_const, Nat.reduceLT, Nat.reduceEqDiff, Nat.reduceSub, Nat.reduceMul, Nat.reduceMod, Nat.reduceDiv, Nat.reducePow, UInt8.reduceToNat, Int.reduceEq, Int.reduceLT, Int.reduceLE, ↓reduceIte, Nat.reduceAdd, Int.reduceToNat, reduceCtorEq, Nat.reduceLeDiff, ↓BM]
    exact AY ((j - 1) / 2) hij (by have := hF.1; simp; omega) ⟨(j - 1) / 2, sw f1 ((j - 1) / 2) j, rfl, by omega, hU.step hpos hj hl, Qu.set (by rw [A7 hql]; exact hq) hcp hne hro, (hF.trans Fq.app).trans Fq.setr, hS.trans (Sh.sw f1 (by omega) hj), by simp [forget, get]⟩
theorem Asi {H : List Ob} {q r n : Nat} {f : Nat → Nd} (hQ : Qu H q r n f) (hn : n < 100000) (hh : Hp 0 n f) {x : Nd} (hx : x.id.length = 20) {K : TV → List Ob → Prop}
  (hK : ∀ H' f', Qu H' q r (n + 1) f' → Fq q r H H' → Sh (n + 1) (fun k => if k = n then x else f k) f' → Hp 0 (n + 1) f' → K (.tup []) H') : Aq Tryd.prog 26 [.ifc 64 (.op q 0 []), .ifc 51 (ndT x)] H K := by
 refine RD (by simp) ?_
 simp -dsimp (disch := first | assumption | omega | (simp only [Ad]; done) | (simp only [Ad]; omega)) only [↓Ah, Ae, Ag, Ai, eq_self, forall_const, Nat.reduceLT, Nat.reduceEqDiff, Nat.reduceSub, Nat.reduceMul, Nat.reduceMod, Nat.reduceDiv, Nat.reducePow, UInt8.reduceToNat, Int.reduceEq, Int.reduceLT, Int.reduceLE, ↓reduceIte, Nat.reduceAdd, Int.reduceToNat, reduceCtorEq, Nat.reduceLeDiff, ↓D7, ArC, AsH]
 refine BQ (Aog hQ hn hx fun H1 hQ1 hF1 => ?_)
 have hQ1' := hQ1
 obtain ⟨v, cp, hq, hrow, hcp, hne⟩ := hQ1
 simp -dsimp (disch := first | assumption | omega | (simp only [Ad]; done) | (simp only [Ad]; omega)) only [↓Ah, Ae, Ag, Ai, eq_self, forall_const, Nat.reduceLT, Nat.reduceEqDiff, Nat.reduceSub, Nat.reduceMul, Nat.reduceMod, Nat.reduceDiv, Nat.reducePow, UInt8.reduceToNat, Int.reduceEq, Int.reduceLT, Int.reduceLE, ↓reduceIte, Nat.reduceAdd, Int.reduceToNat, reduceCtorEq, Nat.reduceLeDiff, ↓D7, Asb, ArZ, hq]
 refine BQ (lenV (by omega) ?_)
 simp -dsimp (disch := first | assumption | omega | (simp only [Ad]; done) | (simp only [Ad]; omega)) only [↓Ah, Ae, Ag, Ai, eq_self, forall_const, Nat.reduceLT, Nat.reduceEqDiff, Nat.reduceSub, Nat.reduceMul, Nat.reduceMod, Nat.reduceDiv, Nat.reducePow, UInt8.reduceToNat, Int.reduceEq, Int.reduceLT, Int.reduceLE, ↓reduceIte, Nat.reduceAdd, Int.reduceToNat, reduceCtorEq, Nat.reduceLeDiff, ↓D7]
 refine BQ (upV hQ1' (Up.start hh x) (by omega) fun H2 f2 a1 a2 a3 a4 => ?_)
 simp -dsimp (disch := first | assumption | omega | (simp only [Ad]; done) | (simp only [Ad]; omega)) only [↓Ah, Ae, Ag, Ai, eq_self, forall_const, Nat.reduceLT, Nat.reduceEqDiff, Nat.reduceSub, Nat.reduceMul, Nat.reduceMod, Nat.reduceDiv, Nat.reducePow, UInt8.reduceToNat, Int.reduceEq, Int.reduceLT, Int.reduceLE, ↓reduceIte, Nat.reduceAdd, Int.reduceToNat, reduceCtorEq, Nat.reduceLeDiff, ↓D7]
 exact hK _ _ a1 (hF1.trans a2) a3 a4
theorem A3s {H : List Ob} {q r n : Nat} {f : Nat → Nd} (hQ : Qu H q r (n + 1) f) (hh : Hp 0 (n + 1) f) {K : TV → List Ob → Prop}
  (hK : ∀ H' f', Qu H' q r n f' → Fq q r H H' → Sh n (sw f 0 n) f' → Hp 0 n f' → K (.ifc 51 (ndT (f 0))) H') : Aq Tryd.prog 24 [.ifc 64 (.op q 0 [])] H K := by
 have hb := hQ.bound
 have hQ' := hQ
 obtain ⟨v, cp, hq, hrow, hcp, hne⟩ := hQ
 have hql := Ap hq
 refine SC (by simp) ?_
 simp -dsimp (disch := first | assumption | omega | (simp only [Ad]; done) | (simp only [Ad]; omega)) only [↓Ah, Ae, Ag, Ai, eq_self, forall_const, Nat.reduceLT, Nat.reduceEqDiff, Nat.reduceSub, Nat.reduceMul, Nat.reduceMod, Nat.reduceDiv, Nat.reducePow, UInt8.reduceToNat, Int.reduceEq, Int.reduceLT, Int.reduceLE, ↓reduceIte, Nat.reduceAdd, Int.reduceToNat, reduceCtorEq, Nat.reduceLeDiff, ↓Ce, Asb, ArZ, hq]
 refine BQ (lenV (by omega) ?_)
 simp -dsimp (disch := first | assumption | omega | (simp only [Ad]; done) | (simp only [Ad]; omega)) only [↓Ah, Ae, Ag, Ai, eq_self, forall_const, Nat.reduceLT, Nat.reduceEqDiff, Nat.reduceSub, Nat.reduceMul, Nat.reduceMod, Nat.reduceDiv, Nat.reducePow, UInt8.reduceToNat, Int.reduceEq, Int.reduceLT, Int.reduceLE, ↓reduceIte, Nat.reduceAdd, Int.reduceToNat, reduceCtorEq, Nat.reduceLeDiff, ↓Ce, AfO, AhS, hq]
 refine BQ (AgQ hrow (i := 0) (j := n) (by omega) (by omega) fun o hro => ?_)
 have hQ1 : Qu (H.set r o) q r (n + 1) (sw f 0 n) := Qu.set hq hcp hne hro
 simp -dsimp (disch := first | assumption | omega | (simp only [Ad]; done) | (simp only [Ad]; omega)) only [↓Ah, Ae, Ag, Ai, eq_self, forall_const, Nat.reduceLT, Nat.reduceEqDiff, Nat.reduceSub, Nat.reduceMul, Nat.reduceMod, Nat.reduceDiv, Nat.reducePow, UInt8.reduceToNat, Int.reduceEq, Int.reduceLT, Int.reduceLE, ↓reduceIte, Nat.reduceAdd, Int.reduceToNat, reduceCtorEq, Nat.reduceLeDiff, ↓Ce]
 refine BQ (Aoo hQ1 (n := n) (i0 := 0) (by omega) hh.cut (by omega) fun H2 f2 b a1 a2 a3 a4 a5 => ?_)
 simp -dsimp (disch := first | assumption | omega | (simp only [Ad]; done) | (simp only [Ad]; omega)) only [↓Ah, Ae, Ag, Ai, eq_self, forall_const, Nat.reduceLT, Nat.reduceEqDiff, Nat.reduceSub, Nat.reduceMul, Nat.reduceMod, Nat.reduceDiv, Nat.reducePow, UInt8.reduceToNat, Int.reduceEq, Int.reduceLT, Int.reduceLE, ↓reduceIte, Nat.reduceAdd, Int.reduceToNat, reduceCtorEq, Nat.reduceLeDiff, ↓Ce, A3c, A29]
 refine BQ (AsF a1 fun H3 c1 c2 => ?_)
 rw [a4 n (Nat.le_refl _), Aob]
 simp -dsimp (disch := first | assumption | omega | (simp only [Ad]; done) | (simp only [Ad]; omega)) only [↓Ah, Ae, Ag, Ai, eq_self, forall_const, Nat.reduceLT, Nat.reduceEqDiff, Nat.reduceSub, Nat.reduceMul, Nat.reduceMod, Nat.reduceDiv, Nat.reducePow, UInt8.reduceToNat, Int.reduceEq, Int.reduceLT, Int.reduceLE, ↓reduceIte, Nat.reduceAdd, Int.reduceToNat, reduceCtorEq, Nat.reduceLeDiff, ↓Ce, Bf]
 rw [← Bf]
 exact hK _ _ c1 ((Fq.setr.trans a2).trans c2) (a3.cut a4) a5
theorem A1T {H : List Ob} {q r n : Nat} {f : Nat → Nd} (hQ : Qu H q r n f) {K : TV → List Ob → Prop}
  (hK : ∀ H' f', Qu H' q r n f' → Fq q r H H' → Sh n f f' → Hp 0 n f' → K (.tup []) H') : Aq Tryd.prog 22 [.ifc 64 (.op q 0 [])] H K := by
 have hb := hQ.bound
 have hQ' := hQ
 obtain ⟨v, cp, hq, hrow, hcp, hne⟩ := hQ
 refine Rx (by simp) ?_
 simp -dsimp (disch := first | assumption | omega | (simp only [Ad]; done) | (simp only [Ad]; omega)) only [↓Ah, Ae, Ag, Ai, eq_self, forall_const, Nat.reduceLT, Nat.reduceEqDiff, Nat.reduceSub, Nat.reduceMul, Nat.reduceMod, Nat.reduceDiv, Nat.reducePow, UInt8.reduceToNat, Int.reduceEq, Int.reduceLT, Int.reduceLE, ↓reduceIte, Nat.reduceAdd, Int.reduceToNat, reduceCtorEq, Nat.reduceLeDiff, ↓BU, Asb, ArZ, hq]
 refine BQ (lenV (by omega) ?_)
 simp -dsimp (disch := first | assumption | omega | (simp only [Ad]; done) | (simp only [Ad]; omega)) only [↓Ah, Ae, Ag, Ai, eq_self, forall_const, Nat.reduceLT, Nat.reduceEqDiff, Nat.reduceSub, Nat.reduceMul, Nat.reduceMod, Nat.reduceDiv, Nat.reducePow, UInt8.reduceToNat, Int.reduceEq, Int.reduceLT, Int.reduceLE, ↓reduceIte, Nat.reduceAdd, Int.reduceToNat, reduceCtorEq, Nat.reduceLeDiff, ↓BU]
 refine BN (fun m e H' => ∃ (i : Nat) (f1 : Nat → Nd), m = i ∧ i ≤ n ∧ Hp i n f1 ∧ Qu H' q r n f1 ∧ Fq q r H H' ∧ Sh n f f1 ∧ e = [(0, .ifc 64 (.op q 0 [])), (2, i64 ((n : Nat) : Int)), (3, i64 ((i : Int) - ((1 : Nat) : Int)))]) (n / 2) ?_ ?_
 ·exact ⟨n / 2, f, rfl, by omega, fun j h1 h2 h3 => by omega, hQ', Fq.refl, Sh.refl _ _, rfl⟩
 ·rintro i e H1 ⟨_, f1, rfl, hi, hh, hQ1, hF, hS, rfl⟩
  rcases Nat.eq_zero_or_pos i with rfl | hpos
  ·simp -dsimp (disch := first | assumption | omega | (simp only [Ad]; done) | (simp only [Ad]; omega)) only [↓Ah, Ae, Ag, Ai, eq_self, forall_const, Nat.reduceLT, Nat.reduceEqDiff, Nat.reduceSub, Nat.reduceMul, Nat.reduceMod, Nat.reduceDiv, Nat.reducePow, UInt8.reduceToNat, Int.reduceEq, Int.reduceLT, Int.reduceLE, ↓reduceIte, Nat.reduceAdd, Int.reduceToNat, reduceCtorEq, Nat.reduceLeDiff, ↓BU]
   exact hK _ _ hQ1 hF hS hh
  ·obtain ⟨k, rfl⟩ : ∃ k, i = k + 1 := ⟨i - 1, by omega⟩
   have ek : (((k + 1 : Nat) : Int) - ((1 : Nat) : Int)) = ((k : Nat) : Int) := by omega
   rw [ek]
   simp -dsimp (disch := first | assumption | omega | (simp only [Ad]; done) | (simp only [Ad]; omega)) only [↓Ah, Ae, Ag, Ai, eq_self, forall_const, Nat.reduceLT, Nat.reduceEqDiff, Nat.reduceSub, Nat.reduceMul, Nat.reduceMod, Nat.reduceDiv, Nat.reducePow, UInt8.reduceToNat, Int.reduceEq, Int.reduceLT, Int.reduceLE, ↓reduceIte, Nat.reduceAdd, Int.reduceToNat, reduceCtorEq, Nat.reduceLeDiff, ↓BU]
   refine BQ (Aoo hQ1 (n := n) (i0 := k) (Nat.le_refl _) hh (by omega) fun H2 f2 b a1 a2 a3 a4 a5 => ?_)
   simp -dsimp (disch := first | assumption | omega | (simp only [Ad]; done) | (simp only [Ad]; omega)) only [↓Ah, Ae, Ag, Ai, eq_self, forall_const, Nat.reduceLT, Nat.reduceEqDiff, Nat.reduceSub, Nat.reduceMul, Nat.reduceMod, Nat.reduceDiv, Nat.reducePow, UInt8.reduceToNat, Int.reduceEq, Int.reduceLT, Int.reduceLE, ↓reduceIte, Nat.reduceAdd, Int.reduceToNat, reduceCtorEq, Nat.reduceLeDiff, ↓BU]
   exact AY k (by omega) (by have h1 := hF.1; have h2 := a2.1; omega) ⟨k, f2, rfl, by omega, a5, a1, hF.trans a2, hS.trans a3, by simp [forget, get]⟩
end Go.Proofs.YtingoaihnlhiaaaDoor


namespace Go.Proofs.YtingoaihnlhiaaaDoor
open Go.RowKit
variable [Bc]
set_option linter.unusedSectionVars false
set_option linter.unusedVariables false

variable {P : Program}
/-- A CALL THAT LEAVES NOTHING BEHIND, AND YIELDS NEW MEMORY ALONE, or ends in a panic. -/
def Adb (P : Program) (f : FuncId) (args : List TV) (R : TV → Prop) (RP : Value → Prop) : Prop :=
 ∀ (β : Nat → Nat → Option (Nat × Nat)) (F : Nat → Prop) (w : World) (vs : List Value), ((∀ b, F b → b < w.heap.size) ∧ MZ F w) → Bd ⟨β, [], F⟩ w args vs →
  Calls P f vs.toArray w fun e w' => ∃ F', RF F w F' w' ∧ ((∃ v x, e = .returned v ∧ R x ∧ Rep ⟨β, [], fun b => F' b ∧ w.heap.size ≤ b⟩ w' x v) ∨ ∃ u, e = .panicked [{ v := u, recovered := false }] ∧ RP u)
theorem Adb.mono {f : FuncId} {args : List TV} {R R' : TV → Prop} {RP RP' : Value → Prop} (h : Adb P f args R RP) (hr : ∀ x, R x → R' x) (hp : ∀ u, RP u → RP' u) : Adb P f args R' RP' :=
 fun β F w vs hF hv => (h β F w vs hF hv).mono fun _ _ ⟨F', h1, h2⟩ => ⟨F', h1, h2.imp (fun ⟨v, x, k1, k2, k3⟩ => ⟨v, x, k1, hr _ k2, k3⟩) fun ⟨u, k1, k2⟩ => ⟨u, k1, hp _ k2⟩⟩

def AdI (x x' : TV) : Prop := ∀ (c : Ctx) (w : World) (v : Value), AbD c w x v → AbD c w x' v
inductive XN : List TV → List TV → Prop
 | nil : XN [] []
 | cons {x x' : TV} {xs xs' : List TV} : AdI x x' → XN xs xs' → XN (x :: xs) (x' :: xs')
theorem AdI.refl {x : TV} : AdI x x := fun _ _ _ h => h
theorem XN.refl : ∀ {xs : List TV}, XN xs xs
 | [] => .nil
 | _ :: _ => .cons AdI.refl XN.refl
theorem XN.rep {c : Ctx} {w : World} {xs xs' : List TV} (h : XN xs xs') : ∀ {vs : List Value}, Bd c w xs vs → Bd c w xs' vs := by
 induction h with
 | nil => exact fun h => h
 | cons h1 h2 ih =>
  intro vs hv
  rw [Bd.cons] at hv ⊢
  obtain ⟨u, us, rfl, k1, k2⟩ := hv
  exact ⟨u, us, rfl, h1 _ _ _ k1, ih k2⟩
/-- No slice is an empty one. -/
theorem Aem {k : Nat} : AdI (.val (.slice none 0 0)) (.sl k []) := fun c w v h => by
 have hv : v = .slice none 0 0 := by
  have h' : Rep c w (.val (.slice none 0 0)) v := .inl h
  rw [Rep.val] at h'; exact h'
 subst hv
 refine .inr (.inr ⟨[.slice none 0 0], ?_, rfl⟩)
 rw [Aj]
 exact ⟨by simp, .inl ⟨rfl, none, 0, rfl, by omega⟩⟩
/-- A result may be read in another way. -/
theorem Gh.conv {f : FuncId} {args : List TV} {R R' : TV → Prop} (h : Gh P f args R) (hc : ∀ x, R x → ∃ x', R' x' ∧ ∀ c w v, Rep c w x v → Rep c w x' v) : Gh P f args R' :=
 fun β F w vs hF hv => (h β F w vs hF hv).mono fun _ _ ⟨v, x, F', h1, h2, h3, h4⟩ => by
  obtain ⟨x', k1, k2⟩ := hc x h2
  exact ⟨v, x', F', h1, k1, k2 _ _ _ h3, h4⟩
theorem XN.tup {xs xs' : List TV} (h : XN xs xs') : ∀ (c : Ctx) (w : World) (v : Value), Rep c w (.tup xs) v → Rep c w (.tup xs') v := by
 rintro c w v ((h1 | h1 | ⟨us, h1, _⟩) | ⟨ys, vs, h1, h2, h3⟩)
 ·cases h1
 ·cases h1
 ·rw [Aj] at h1; exact h1.elim
 ·cases h1
  exact .inr ⟨xs', vs, rfl, h2, h.rep h3⟩
end Go.Proofs.YtingoaihnlhiaaaDoor


namespace Go.Proofs.YtingoaihnlhiaaaDoor
open Go.RowKit
variable [Bc]
set_option linter.unusedSectionVars false
set_option linter.unusedVariables false
set_option linter.unusedSimpArgs false

theorem Zh : ∀ {l : List (List UInt8)}, Oq (l.map idT) = true
 | [] => rfl
 | x :: l => by rw [List.map_cons, Oq, Zh, AP, AbE, AcD]; rfl
theorem AnQ (n : Nat) (hn : n ≤ 1000000) {H : List Ob} : Aq Tryd.prog 37 [.val (.slice none 0 0), i64 (n : Int)] H (fun x H' => (n = 0 ∧ x = .val (.slice none 0 0) ∧ H' = H) ∨ (0 < n ∧ x = .os 20 H.length 0 [] 0 0 n ∧ ∃ cs, H' = H ++ [.obj 0 (.arr n 20 cs)])) := by
 refine KT (by simp) ?_
 by_cases h0 : 0 < n
 ·simp -dsimp (disch := first | assumption | omega) only [↓Ah, Ae, Ag, Ai, eq_self, forall_const, Nat.reduceLT, Nat.reduceEqDiff, Nat.reduceSub, Nat.reduceMul, Nat.reduceMod, Nat.reduceDiv, Nat.reducePow, UInt8.reduceToNat, Int.reduceEq, Int.reduceLT, Int.reduceLE, ↓reduceIte, Nat.reduceAdd, Int.reduceToNat, reduceCtorEq, Nat.reduceLeDiff, ↓EW]
  refine .inr ⟨h0, ?_⟩
  first | exact ⟨rfl, _, rfl⟩ | exact ⟨_, rfl⟩
 ·have h1 : n = 0 := by omega
  subst h1
  simp -dsimp (disch := first | assumption | omega) only [↓Ah, Ae, Ag, Ai, eq_self, forall_const, Nat.reduceLT, Nat.reduceEqDiff, Nat.reduceSub, Nat.reduceMul, Nat.reduceMod, Nat.reduceDiv, Nat.reducePow, UInt8.reduceToNat, Int.reduceEq, Int.reduceLT, Int.reduceLE, ↓reduceIte, Nat.reduceAdd, Int.reduceToNat, reduceCtorEq, Nat.reduceLeDiff, ↓EW]
  exact .inl trivial
theorem Amh (ls : List (List (List UInt8))) (hl : ls.length ≤ 1000) (hs : ls.flatten.length ≤ 1000000) : MV Tryd.prog 20 [.sl 1 (ls.map fun l => .sl 20 (l.map idT))] (fun x => x = .sl 20 (ls.flatten.map idT)) := by
 refine Aq.toFreshV (J6 (by simp) ?_)
 have hsum : ∀ i, (ls.take i).flatten.length ≤ ls.flatten.length := fun i => by
  conv => rhs; rw [← List.take_append_drop i ls]
  rw [List.flatten_append, List.length_append]; omega
 have hsucc : ∀ i l, ls[i]? = some l → (ls.take (i + 1)).flatten = (ls.take i).flatten ++ l := fun i l h => by
  rw [List.take_add_one, h]; simp
 simp -dsimp (disch := first | assumption | omega | (simp only [Ad]; done) | (simp only [Ad]; omega)) only [↓Ah, Ae, Ag, Ai, eq_self, forall_const, Nat.reduceLT, Nat.reduceEqDiff, Nat.reduceSub, Nat.reduceMul, Nat.reduceMod, Nat.reduceDiv, Nat.reducePow, UInt8.reduceToNat, Int.reduceEq, Int.reduceLT, Int.reduceLE, ↓reduceIte, Nat.reduceAdd, Int.reduceToNat, reduceCtorEq, Nat.reduceLeDiff, ↓Bo]
 refine BN (fun q e H' => ∃ i, q = ls.length - i ∧ i ≤ ls.length ∧ e = [(0, .sl 1 (ls.map fun l => .sl 20 (l.map idT))), (3, i64 (((ls.take i).flatten.length : Nat) : Int)), (9, .sl 1 (ls.map fun l => .sl 20 (l.map idT))), (10, i64 (ls.length : Int)), (11, i64 (i : Int))] ∧ H' = []) ls.length ?_ ?_
 ·exact ⟨0, rfl, by omega, rfl, rfl⟩
 ·rintro q e H ⟨i, hq, hi, rfl, rfl⟩
  by_cases h1 : i < ls.length
  ·obtain ⟨l, hg⟩ : ∃ l, ls[i]? = some l := ⟨_, List.getElem?_eq_getElem h1⟩
   have e1 := hsucc i l hg
   have e2 := hsum (i + 1)
   have e3 : (ls.take (i + 1)).flatten.length = (ls.take i).flatten.length + l.length := by rw [e1, List.length_append]
   generalize (ls.take i).flatten.length = a at *
   simp -dsimp (disch := first | assumption | omega | (simp only [Ad]; done) | (simp only [Ad]; omega)) only [↓Ah, Ae, Ag, Ai, eq_self, forall_const, Nat.reduceLT, Nat.reduceEqDiff, Nat.reduceSub, Nat.reduceMul, Nat.reduceMod, Nat.reduceDiv, Nat.reducePow, UInt8.reduceToNat, Int.reduceEq, Int.reduceLT, Int.reduceLE, ↓reduceIte, Nat.reduceAdd, Int.reduceToNat, reduceCtorEq, Nat.reduceLeDiff, ↓Bo, hg]
   exact AY (ls.length - (i + 1)) (by omega) (by simp) ⟨i + 1, rfl, by omega, by rw [e3]; rfl, rfl⟩
  ·have hil : i = ls.length := by omega
   subst hil
   rw [List.take_length]
   simp -dsimp (disch := first | assumption | omega | (simp only [Ad]; done) | (simp only [Ad]; omega)) only [↓Ah, Ae, Ag, Ai, eq_self, forall_const, Nat.reduceLT, Nat.reduceEqDiff, Nat.reduceSub, Nat.reduceMul, Nat.reduceMod, Nat.reduceDiv, Nat.reducePow, UInt8.reduceToNat, Int.reduceEq, Int.reduceLT, Int.reduceLE, ↓reduceIte, Nat.reduceAdd, Int.reduceToNat, reduceCtorEq, Nat.reduceLeDiff, ↓Dv, ↓Dq, ↓Dp]
   refine BQ ((AnQ _ hs).mono fun x H' hx => ?_)
   have fin : ∀ (v : Nat) (cs : List TV) (N cp : Nat), vwp Tryd.prog (.loop [6, 25, 26, 27] BI) (Blk 2 (Thn Tryd.prog BJ (Yc Cb fun x H' => Bj (frs H' x) fun x => x = .sl 20 (ls.flatten.map idT))))
     [(6, .os 20 0 v [] 0 0 cp), (25, .sl 1 (ls.map fun l => .sl 20 (l.map idT))), (26, i64 (ls.length : Int)), (27, i64 ((0 : Nat) : Int))] [.obj v (.arr N 20 cs)] := by
    intro v cs N cp
    refine BN (fun q e H' => ∃ i v cs N cp, q = ls.length - i ∧ i ≤ ls.length ∧ (ls.take i).flatten.length ≤ cs.length ∧ cs.take (ls.take i).flatten.length = (ls.take i).flatten.map idT ∧ e = [(6, .os 20 0 v [] 0 (ls.take i).flatten.length cp), (25, .sl 1 (ls.map fun l => .sl 20 (l.map idT))), (26, i64 (ls.length : Int)), (27, i64 (i : Int))] ∧ H' = [.obj v (.arr N 20 cs)]) ls.length ?_ ?_
    ·exact ⟨0, v, cs, N, cp, rfl, by omega, by simp, by simp, rfl, rfl⟩
    ·rintro q e H' ⟨i, v, cs, N, cp, hq, hi, hc1, hc2, rfl, rfl⟩
     by_cases h1 : i < ls.length
     ·obtain ⟨l, hg⟩ : ∃ l, ls[i]? = some l := ⟨_, List.getElem?_eq_getElem h1⟩
      have e1 := hsucc i l hg
      have e2 := hsum (i + 1)
      have e3 : (ls.take (i + 1)).flatten.length = (ls.take i).flatten.length + l.length := by rw [e1, List.length_append]
      obtain ⟨a, ha⟩ : ∃ a, a = (ls.take i).flatten := ⟨_, rfl⟩
      rw [← ha] at hc1 hc2 e1 e3
      rw [← ha]
      have htk : (a.map idT).take a.length = a.map idT := List.take_of_length_le (by simp)
      simp -dsimp (disch := first | assumption | omega | (simp only [Ad]; done) | (simp only [Ad]; omega)) only [↓Ah, Ae, Ag, Ai, eq_self, forall_const, Nat.reduceLT, Nat.reduceEqDiff, Nat.reduceSub, Nat.reduceMul, Nat.reduceMod, Nat.reduceDiv, Nat.reducePow, UInt8.reduceToNat, Int.reduceEq, Int.reduceLT, Int.reduceLE, ↓reduceIte, Nat.reduceAdd, Int.reduceToNat, reduceCtorEq, Nat.reduceLeDiff, ↓Bo, hg, hc2, htk]
      exact AY (ls.length - (i + 1)) (by omega) (by simp) ⟨i + 1, v + 1, a.map idT ++ l.map idT, a.length + l.length, a.length + l.length, rfl, by omega, by rw [e3]; simp, by rw [e3, e1, List.map_append]; exact List.take_of_length_le (by simp), by rw [e3]; rfl, rfl⟩
     ·have hil : i = ls.length := by omega
      subst hil
      rw [List.take_length] at hc1 hc2
      rw [List.take_length]
      simp -dsimp (disch := first | assumption | omega | (simp only [Ad]; done) | (simp only [Ad]; omega)) only [↓Ah, Ae, Ag, Ai, eq_self, forall_const, Nat.reduceLT, Nat.reduceEqDiff, Nat.reduceSub, Nat.reduceMul, Nat.reduceMod, Nat.reduceDiv, Nat.reducePow, UInt8.reduceToNat, Int.reduceEq, Int.reduceLT, Int.reduceLE, ↓reduceIte, Nat.reduceAdd, Int.reduceToNat, reduceCtorEq, Nat.reduceLeDiff, ↓Bo, hc2, Zh]
   rcases hx with ⟨h0, rfl, rfl⟩ | ⟨h0, rfl, cs, rfl⟩
   ·simp -dsimp (disch := first | assumption | omega | (simp only [Ad]; done) | (simp only [Ad]; omega)) only [↓Ah, Ae, Ag, Ai, eq_self, forall_const, Nat.reduceLT, Nat.reduceEqDiff, Nat.reduceSub, Nat.reduceMul, Nat.reduceMod, Nat.reduceDiv, Nat.reducePow, UInt8.reduceToNat, Int.reduceEq, Int.reduceLT, Int.reduceLE, ↓reduceIte, Nat.reduceAdd, Int.reduceToNat, reduceCtorEq, Nat.reduceLeDiff, ↓BB]
    exact fin _ _ _ _
   ·simp -dsimp (disch := first | assumption | omega | (simp only [Ad]; done) | (simp only [Ad]; omega)) only [↓Ah, Ae, Ag, Ai, eq_self, forall_const, Nat.reduceLT, Nat.reduceEqDiff, Nat.reduceSub, Nat.reduceMul, Nat.reduceMod, Nat.reduceDiv, Nat.reducePow, UInt8.reduceToNat, Int.reduceEq, Int.reduceLT, Int.reduceLE, ↓reduceIte, Nat.reduceAdd, Int.reduceToNat, reduceCtorEq, Nat.reduceLeDiff, ↓BB]
    exact fin _ _ _ _
end Go.Proofs.YtingoaihnlhiaaaDoor


namespace Go.Proofs.YtingoaihnlhiaaaDoor
open Go.RowKit
variable [Bc]
set_option linter.unusedSectionVars false
set_option linter.unusedVariables false
set_option linter.unusedSimpArgs false
set_option autoImplicit false

/-- How often some name it aS a parent. -/
def cnt (l : List Nd) (D : List (List UInt8)) (y : List UInt8) : Nat := (D.flatMap (pOf l)).count y
theorem An1 {l : List Nd} {y : List UInt8} : cnt l [] y = 0 := by simp [cnt]
theorem AlO {l : List Nd} {D : List (List UInt8)} {x y : List UInt8} : cnt l (D ++ [x]) y = cnt l D y + (pOf l x).count y := by simp [cnt, List.count_append]
theorem Aes {l : List Nd} {D E : List (List UInt8)} (h : D.Perm E) (y : List UInt8) : cnt l D y = cnt l E y := by
 unfold cnt; exact (h.flatMap_right _).count_eq y
theorem Af3 {l : List Nd} {D : List (List UInt8)} {x : List UInt8} (h : x ∈ D) (y : List UInt8) : cnt l D y = cnt l (D.erase x) y + (pOf l x).count y := by
 rw [Aes (List.perm_cons_erase h) y]
 simp [cnt, List.count_append, Nat.add_comm]
theorem Ad7 {l : List Nd} {D : List (List UInt8)} {y : List UInt8} : cnt l D y = 0 ↔ ∀ x ∈ D, ¬ y ∈ pOf l x := by
 unfold cnt
 rw [List.count_eq_zero, List.mem_flatMap]
 exact ⟨fun h x hx hy => h ⟨x, hx, hy⟩, fun h ⟨x, hx, hy⟩ => h x hx hy⟩
theorem Alu {l : List Nd} (hp : ∀ n ∈ l, n.ps.length ≤ 1000) (D : List (List UInt8)) (y : List UInt8) : cnt l D y ≤ 1000 * D.length := by
 unfold cnt
 have key : ∀ D : List (List UInt8), (D.flatMap (pOf l)).length ≤ 1000 * D.length := by
  intro D
  induction D with
  | nil => simp
  | cons a D ih =>
   have h1 : (pOf l a).length ≤ 1000 := by
    unfold pOf
    cases hf : l.find? (fun n => n.id == a) with
    | none => simp
    | some n => simpa using hp n (List.mem_of_find?_eq_some hf)
   rw [List.flatMap_cons, List.length_append, List.length_cons]; omega
 exact Nat.le_trans List.count_le_length (key D)
theorem Adv {l : List Nd} {R : List (List UInt8)} {x : List UInt8} : Fre l (· ∈ R) x ↔ x ∈ R ∧ cnt l R x = 0 := by
 unfold Fre
 rw [Ad7]
/-- What the queue holds: of those that are left the ones that nobody names. -/
structure QIn (l : List Nd) (R : List (List UInt8)) (f : List UInt8 → Nat) (n : Nat) (g : Nat → Nd) : Prop where
 mem : ∀ x, (∃ k, k < n ∧ g k = x) ↔ x ∈ l ∧ x.id ∈ R ∧ f x.id = 0
 inj : ∀ i j, i < n → j < n → (g i).id = (g j).id → i = j
theorem QIn.sh {l : List Nd} {R : List (List UInt8)} {f : List UInt8 → Nat} {n : Nat} {g g' : Nat → Nd} (h : QIn l R f n g) (k : Sh n g g') : QIn l R f n g' := ⟨fun x => k.mem.trans (h.mem x), k.inj (·.id) h.inj⟩
theorem QIn.le {l : List Nd} {R : List (List UInt8)} {f : List UInt8 → Nat} {n : Nat} {g : Nat → Nd} (h : QIn l R f n g) : n ≤ l.length := by
 have h1 := Gf (d := (List.range n).map fun k => (g k).id) (e := AL l) ?_ ?_
 ·simpa [AL] using h1
 ·unfold List.Nodup
  rw [List.pairwise_map]
  refine List.Pairwise.imp_of_mem (fun {a b} ha hb hlt e => ?_) (List.pairwise_lt_range (n := n))
  have := h.inj a b (List.mem_range.1 ha) (List.mem_range.1 hb) e
  omega
 ·intro x hx
  obtain ⟨k, hk, rfl⟩ := List.mem_map.1 hx
  exact VL ((h.mem (g k)).1 ⟨k, List.mem_range.1 hk, rfl⟩).1
theorem QIn.congr {l : List Nd} {R : List (List UInt8)} {f f' : List UInt8 → Nat} {n : Nat} {g : Nat → Nd} (h : QIn l R f n g) (e : ∀ y, f' y = f y) : QIn l R f' n g := ⟨fun x => by rw [h.mem, e], h.inj⟩
/-- The first one is taken out (and the last one stands in its place). -/
theorem QIn.pop {l : List Nd} (hn : (AL l).Nodup) {R : List (List UInt8)} (hR : R.Nodup) {f : List UInt8 → Nat} {n : Nat} {g : Nat → Nd} (h : QIn l R f (n + 1) g) : QIn l (R.erase (g 0).id) f n (sw g 0 n) := by
 have hs := h.sh (Sh.sw g (Nat.succ_pos n) (Nat.lt_succ_self n))
 refine ⟨fun x => ?_, fun i j hi hj e => hs.inj i j (by omega) (by omega) e⟩
 have h0 : sw g 0 n n = g 0 := Aob
 constructor
 ·rintro ⟨k, hk, rfl⟩
  obtain ⟨a, b, c⟩ := (hs.mem _).1 ⟨k, Nat.lt_succ_of_lt hk, rfl⟩
  refine ⟨a, ?_, c⟩
  rw [hR.mem_erase_iff]
  refine ⟨fun e => ?_, b⟩
  have := hs.inj k n (by omega) (by omega) (by rw [h0]; exact e)
  omega
 ·rintro ⟨a, b, c⟩
  rw [hR.mem_erase_iff] at b
  obtain ⟨k, hk, rfl⟩ := (hs.mem x).2 ⟨a, b.2, c⟩
  refine ⟨k, ?_, rfl⟩
  rcases Nat.lt_succ_iff_lt_or_eq.1 hk with hk | rfl
  ·exact hk
  ·exact absurd (by rw [h0]) b.1
/-- One is named once less. -/
theorem QIn.dec {l : List Nd} {R : List (List UInt8)} {f : List UInt8 → Nat} {n : Nat} {g : Nat → Nd} (h : QIn l R f n g) {p : List UInt8} (hf : 1 ≤ f p) (hno : f p = 1 → ¬ p ∈ R) : QIn l R (fun y => if p = y then f p - 1 else f y) n g := by
 refine ⟨fun x => ?_, h.inj⟩
 rw [h.mem x]
 refine and_congr Iff.rfl ⟨fun ⟨a, b⟩ => ⟨a, ?_⟩, fun ⟨a, b⟩ => ⟨a, ?_⟩⟩
 ·have : p ≠ x.id := fun e => by rw [e] at hf; omega
  simp [this, b]
 ·by_cases e : p = x.id
  ·subst e
   simp only [if_true] at b
   exact absurd a (hno (by omega))
  ·simpa [e] using b
theorem QIn.push {l : List Nd} (hn : (AL l).Nodup) {R : List (List UInt8)} {f : List UInt8 → Nat} {n : Nat} {g : Nat → Nd} (h : QIn l R f n g) {m : Nd} (hm : m ∈ l) (hf : f m.id = 1) (hR : m.id ∈ R) : QIn l R (fun y => if m.id = y then f m.id - 1 else f y) (n + 1) (fun k => if k = n then m else g k) := by
 have hold : ∀ k, k < n → (g k).id ≠ m.id := fun k hk e => by
  have := ((h.mem (g k)).1 ⟨k, hk, rfl⟩).2.2
  rw [e, hf] at this; cases this
 refine ⟨fun x => ?_, fun i j hi hj e => ?_⟩
 ·constructor
  ·rintro ⟨k, hk, rfl⟩
   by_cases c : k = n
   ·simp only [c, if_true]; exact ⟨hm, hR, by rw [hf]⟩
   ·simp only [c, if_false]
    obtain ⟨a, b, d⟩ := (h.mem (g k)).1 ⟨k, by omega, rfl⟩
    refine ⟨a, b, ?_⟩
    have : ¬ m.id = (g k).id := fun e => hold k (by omega) e.symm
    simp [this, d]
  ·rintro ⟨a, b, d⟩
   by_cases c : m.id = x.id
   ·refine ⟨n, Nat.lt_succ_self n, ?_⟩
    simp only [if_true]
    have h1 := EY hn hm
    have h2 := EY hn a
    obtain ⟨i, hi, rfl⟩ := List.getElem_of_mem hm
    obtain ⟨j, hj, rfl⟩ := List.getElem_of_mem a
    have w1 := AaG hn hi
    have w2 := AaG hn hj
    rw [c, w2] at w1
    have : i = j := by omega
    subst this; rfl
   ·have d' : f x.id = 0 := by simpa [c] using d
    obtain ⟨k, hk, rfl⟩ := (h.mem x).2 ⟨a, b, d'⟩
    exact ⟨k, by omega, by simp [Nat.ne_of_lt hk]⟩
 ·by_cases c : i = n <;> by_cases d : j = n
  ·omega
  ·simp only [c, d, if_true, if_false] at e; exact absurd e.symm (hold j (by omega))
  ·simp only [c, d, if_true, if_false] at e; exact absurd e (hold i (by omega))
  ·simp only [c, d, if_false] at e; exact h.inj i j (by omega) (by omega) e
end Go.Proofs.YtingoaihnlhiaaaDoor


namespace Go.Proofs.YtingoaihnlhiaaaDoor
open Go.RowKit
variable [Bc]
set_option linter.unusedSectionVars false
set_option linter.unusedVariables false
set_option linter.unusedSimpArgs false

/-- The objects of graph.Order. -/
structure OH (l : List Nd) (X : List (List UInt8)) (gi mi mn ml q r io : Nat) (H : List Ob) (f : List UInt8 → Nat) (n : Nat) (g : Nat → Nd) (pre : List (List UInt8)) (v : Nat) : Prop where
 ix : mi < gi ∧ gi < mn ∧ mn < ml ∧ ml < r ∧ r < q ∧ q < io
 gr : H[gi]? = some (.obj 0 (.agg [.mp mi 0, .val (.map none)]))
 nm : H[mi]? = some (.mpo (.arr 20) (AZ l))
 inn : Ry (.arr 20) H[mn]? = some (Ko X)
 cn : ∃ es, H[ml]? = some (.mpo (.arr 20) es) ∧ Y2 es f
 qu : Qu H q r n g
 ou : H[io]? = some (.obj v (.arr pre.length 20 (pre.map idT)))
section
variable {l : List Nd} {X : List (List UInt8)} {gi mi mn ml q r io : Nat} {H : List Ob} {f : List UInt8 → Nat} {n : Nat} {g : Nat → Nd} {pre : List (List UInt8)} {v : Nat}
theorem Qi {kk : MK} {id : Nat} {es : List (List UInt8 × TV)} (h : Ry kk H[id]? = some es) : id < H.length := by
 rcases Nat.lt_or_ge id H.length with h1 | h1
 ·exact h1
 ·rw [List.getElem?_eq_none h1] at h; cases h
theorem OH.app (h : OH l X gi mi mn ml q r io H f n g pre v) {T : List Ob} : OH l X gi mi mn ml q r io (H ++ T) f n g pre v where
 ix := h.ix
 gr := by rw [A7 (Ap h.gr)]; exact h.gr
 nm := by rw [A7 (Ap h.nm)]; exact h.nm
 inn := by rw [A7 (Qi h.inn)]; exact h.inn
 cn := by obtain ⟨es, h1, h2⟩ := h.cn; exact ⟨es, by rw [A7 (Ap h1)]; exact h1, h2⟩
 qu := h.qu.app
 ou := by rw [A7 (Ap h.ou)]; exact h.ou
theorem OH.fq (h : OH l X gi mi mn ml q r io H f n g pre v) {H' : List Ob} {n' : Nat} {g' : Nat → Nd} (hf : Fq q r H H') (hq : Qu H' q r n' g') : OH l X gi mi mn ml q r io H' f n' g' pre v := by
 obtain ⟨i1, i2, i3, i4, i5, i6⟩ := h.ix
 have hio := Ap h.ou
 refine ⟨h.ix, ?_, ?_, ?_, ?_, hq, ?_⟩
 ·rw [hf.2 gi (by omega) (by omega) (by omega)]; exact h.gr
 ·rw [hf.2 mi (by omega) (by omega) (by omega)]; exact h.nm
 ·rw [hf.2 mn (by omega) (by omega) (by omega)]; exact h.inn
 ·obtain ⟨es, h1, h2⟩ := h.cn
  exact ⟨es, by rw [hf.2 ml (by omega) (by omega) (by omega)]; exact h1, h2⟩
 ·rw [hf.2 io hio (by omega) (by omega)]; exact h.ou
theorem Qu.seti {H : List Ob} {q r n : Nat} {f : Nat → Nd} (h : Qu H q r n f) {i : Nat} {o : Ob} (h1 : i ≠ q) (h2 : i ≠ r) : Qu (H.set i o) q r n f := by
 obtain ⟨v, cp, a, ⟨N, cs, b, c⟩, d⟩ := h
 exact ⟨v, cp, by rw [List.getElem?_set_ne h1]; exact a, ⟨N, cs, by rw [List.getElem?_set_ne h2]; exact b, c⟩, d⟩
theorem OH.setml (h : OH l X gi mi mn ml q r io H f n g pre v) {es : List (List UInt8 × TV)} {f' : List UInt8 → Nat} (hc : Y2 es f') : OH l X gi mi mn ml q r io (H.set ml (.mpo (.arr 20) es)) f' n g pre v := by
 obtain ⟨i1, i2, i3, i4, i5, i6⟩ := h.ix
 have hio := Ap h.ou
 refine ⟨h.ix, ?_, ?_, ?_, ⟨es, List.getElem?_set_self (by omega), hc⟩, h.qu.seti (by omega) (by omega), ?_⟩
 ·rw [List.getElem?_set_ne (by omega)]; exact h.gr
 ·rw [List.getElem?_set_ne (by omega)]; exact h.nm
 ·rw [List.getElem?_set_ne (by omega)]; exact h.inn
 ·rw [List.getElem?_set_ne (by omega)]; exact h.ou
theorem OH.seto (h : OH l X gi mi mn ml q r io H f n g pre v) {pre' : List (List UInt8)} {v' : Nat} : OH l X gi mi mn ml q r io (H.set io (.obj v' (.arr pre'.length 20 (pre'.map idT)))) f n g pre' v' := by
 obtain ⟨i1, i2, i3, i4, i5, i6⟩ := h.ix
 have hio := Ap h.ou
 refine ⟨h.ix, ?_, ?_, ?_, ?_, h.qu.seti (by omega) (by omega), List.getElem?_set_self hio⟩
 ·rw [List.getElem?_set_ne (by omega)]; exact h.gr
 ·rw [List.getElem?_set_ne (by omega)]; exact h.nm
 ·rw [List.getElem?_set_ne (by omega)]; exact h.inn
 ·obtain ⟨es, h1, h2⟩ := h.cn
  exact ⟨es, by rw [List.getElem?_set_ne (by omega)]; exact h1, h2⟩
end
theorem A3e {X : List (List UInt8)} {H : List Ob} {m : Nat} (hm : Ry (.arr 20) H[m]? = some (Ko X)) (x : List UInt8) {K : TV → List Ob → Prop} (hK : ∀ T, K (tb (X.contains x)) (H ++ T)) :
  Aq Tryd.prog 25 [.mp m 0, idT x] H K := by
 have h3 := Qi hm
 refine Qx (by simp) ?_
 have hk : (GL x (Ko X)).isSome = X.contains x := by
  rw [Ko]
  induction X with
  | nil => rfl
  | cons k X ih =>
   rw [List.map_cons, GL]
   by_cases h : k = x
   ·subst h; simp
   ·have : (x == k) = false := by simpa using fun e => h e.symm
    rw [if_neg h, List.contains_cons, this, Bool.false_or]
    have key : ∀ X : List (List UInt8), (GL x (X.map fun k => (k, TV.agg []))).isSome = X.contains x := by
     intro X
     induction X with
     | nil => rfl
     | cons k X ih =>
      rw [List.map_cons, GL]
      by_cases h : k = x
      ·subst h; simp
      ·have : (x == k) = false := by simpa using fun e => h e.symm
       rw [if_neg h, List.contains_cons, this, Bool.false_or, ih]
    exact key X
 rw [← hk] at hK
 cases hl : GL x (Ko X) with
 | none =>
  rw [hl] at hK
  simp -dsimp (disch := first | assumption | omega | (simp only [Ad]; done) | (simp only [Ad]; omega)) only [↓Ah, Ae, Ag, Ai, eq_self, forall_const, Nat.reduceLT, Nat.reduceEqDiff, Nat.reduceSub, Nat.reduceMul, Nat.reduceMod, Nat.reduceDiv, Nat.reducePow, UInt8.reduceToNat, Int.reduceEq, Int.reduceLT, Int.reduceLE, ↓reduceIte, Nat.reduceAdd, Int.reduceToNat, reduceCtorEq, Nat.reduceLeDiff, ↓Ia, hm, AP, hl]
  simp only [List.append_assoc]
  exact hK _
 | some y =>
  rw [hl] at hK
  have hy := VT x y hl
  subst hy
  simp -dsimp (disch := first | assumption | omega | (simp only [Ad]; done) | (simp only [Ad]; omega)) only [↓Ah, Ae, Ag, Ai, eq_self, forall_const, Nat.reduceLT, Nat.reduceEqDiff, Nat.reduceSub, Nat.reduceMul, Nat.reduceMod, Nat.reduceDiv, Nat.reducePow, UInt8.reduceToNat, Int.reduceEq, Int.reduceLT, Int.reduceLE, ↓reduceIte, Nat.reduceAdd, Int.reduceToNat, reduceCtorEq, Nat.reduceLeDiff, ↓Ia, hm, AP, hl]
  simp only [List.append_assoc]
  exact hK _
theorem Ag8 {l : List Nd} (hok : GOk l) (hl : l.length ≤ 100) (hp : ∀ n ∈ l, n.ps.length ≤ 1000) (h20 : ∀ n ∈ l, n.id.length = 20) {X R : List (List UInt8)} (hX : ∀ x ∈ X, x ∈ AL l) (hRX : ∀ x ∈ R, x ∈ X) (hRn : R.Nodup) {gi mi mn ml q r io v cp : Nat} {H : List Ob} {n : Nat} {g : Nat → Nd} {pre : List (List UInt8)} {y : Nd} (hy : y ∈ l)
  (hpar : ∀ p ∈ y.ps, p ∈ X → p ∈ R) (hH : OH l X gi mi mn ml q r io H (fun z => cnt l R z + y.ps.count z) n g pre v) (hq0 : QIn l R (fun z => cnt l R z + y.ps.count z) n g) (hh : Hp 0 n g) {Q : VEx → Env → List Ob → Prop}
  (hQ : ∀ e' H' n' g', get e' 8 = .op gi 0 [] → get e' 11 = .mp mn 0 → get e' 13 = .mp ml 0 → get e' 17 = .op q 0 [] → get e' 19 = .os 20 io v [] 0 pre.length cp → OH l X gi mi mn ml q r io H' (cnt l R) n' g' pre v → H.length ≤ H'.length → QIn l R (cnt l R) n' g' → Hp 0 n' g' → Q .nor e' H') :
  vwp Tryd.prog Jm Q [(8, .op gi 0 []), (11, .mp mn 0), (13, .mp ml 0), (17, .op q 0 []), (19, .os 20 io v [] 0 pre.length cp), (118, .sl 20 (y.ps.map idT)), (119, i64 (y.ps.length : Int)), (120, i64 ((0 : Nat) : Int))] H := by
 have hpy := hp y hy
 have hRl : R.length ≤ l.length := by
  have := Gf hRn fun x hx => hX x (hRX x hx)
  simpa [AL] using this
 simp -dsimp (disch := first | assumption | omega | (simp only [Ad]; done) | (simp only [Ad]; omega)) only [↓Ah, Ae, Ag, Ai, eq_self, forall_const, Nat.reduceLT, Nat.reduceEqDiff, Nat.reduceSub, Nat.reduceMul, Nat.reduceMod, Nat.reduceDiv, Nat.reducePow, UInt8.reduceToNat, Int.reduceEq, Int.reduceLT, Int.reduceLE, ↓reduceIte, Nat.reduceAdd, Int.reduceToNat, reduceCtorEq, Nat.reduceLeDiff, ↓U8]
 refine BN (fun m e H' => ∃ (j n' : Nat) (g' : Nat → Nd) (f : List UInt8 → Nat), m = y.ps.length - j ∧ j ≤ y.ps.length ∧ (∀ z, f z = cnt l R z + (y.ps.drop j).count z) ∧ OH l X gi mi mn ml q r io H' f n' g' pre v ∧ H.length ≤ H'.length ∧ QIn l R f n' g' ∧ Hp 0 n' g' ∧
  e = [(8, .op gi 0 []), (11, .mp mn 0), (13, .mp ml 0), (17, .op q 0 []), (19, .os 20 io v [] 0 pre.length cp), (118, .sl 20 (y.ps.map idT)), (119, i64 (y.ps.length : Int)), (120, i64 (j : Int))]) y.ps.length ?_ ?_
 ·exact ⟨0, n, g, _, rfl, by omega, fun z => rfl, hH, Nat.le_refl _, hq0, hh, rfl⟩
 ·clear hH hq0 hh
  rintro m e H1 ⟨j, n', g', f, rfl, hj, hf, hH, hHl, hqi, hh, rfl⟩
  by_cases h : j < y.ps.length
  case neg =>
   have hj2 : j = y.ps.length := by omega
   subst hj2
   have hfe : ∀ z, cnt l R z = f z := fun z => by rw [hf z, List.drop_length]; simp
   have hH' : OH l X gi mi mn ml q r io H1 (cnt l R) n' g' pre v := ⟨hH.ix, hH.gr, hH.nm, hH.inn, by obtain ⟨es, h1, h2⟩ := hH.cn; exact ⟨es, h1, h2.congr hfe⟩, hH.qu, hH.ou⟩
   simp -dsimp (disch := first | assumption | omega | (simp only [Ad]; done) | (simp only [Ad]; omega)) only [↓Ah, Ae, Ag, Ai, eq_self, forall_const, Nat.reduceLT, Nat.reduceEqDiff, Nat.reduceSub, Nat.reduceMul, Nat.reduceMod, Nat.reduceDiv, Nat.reducePow, UInt8.reduceToNat, Int.reduceEq, Int.reduceLT, Int.reduceLE, ↓reduceIte, Nat.reduceAdd, Int.reduceToNat, reduceCtorEq, Nat.reduceLeDiff, ↓Gl, ↓Gw]
   exact hQ _ _ _ _ rfl rfl rfl rfl rfl hH' hHl (hqi.congr hfe) hh
  have hg2 : y.ps[j]? = some y.ps[j] := List.getElem?_eq_getElem h
  have hdrop := List.drop_eq_getElem_cons h
  have hpm := List.getElem_mem h
  generalize y.ps[j] = p at *
  obtain ⟨es, hml, hc⟩ := hH.cn
  have hcp := hc p
  have hmll := Ap hml
  have hcnt : (y.ps.drop j).count p ≤ y.ps.length := Nat.le_trans List.count_le_length (by simp)
  have hfp := hf p
  have hcl := Alu hp R p
  have hf1 : 1 ≤ f p := by rw [hfp, hdrop]; simp; omega
  have hf' : ∀ z, (if p = z then f p - 1 else f z) = cnt l R z + (y.ps.drop (j + 1)).count z := by
   intro z
   have h9 := hf z
   rw [hdrop, List.count_cons] at h9
   by_cases e : p = z
   ·subst e; simp at h9 ⊢; omega
   ·simp [e] at h9 ⊢; omega
  obtain ⟨pn, hpn, hpne⟩ := List.mem_map.1 (hok.1.there y hy p hpm)
  have hc' := hc.put p (f p - 1)
  have hcp2 : (GL p (Hg p (i64 ((f p - 1 : Nat) : Int)) es)).getD (i64 ((0 : Nat) : Int)) = i64 ((f p - 1 : Nat) : Int) := by rw [AhZ, if_pos rfl]; rfl
  have hfb : f p ≤ 1000000 := by omega
  by_cases h0 : f p = 1
  ·rw [h0] at hcp hcp2
   simp -dsimp (disch := first | assumption | omega | (simp only [Ad]; done) | (simp only [Ad]; omega)) only [↓Ah, Ae, Ag, Ai, eq_self, forall_const, Nat.reduceLT, Nat.reduceEqDiff, Nat.reduceSub, Nat.reduceMul, Nat.reduceMod, Nat.reduceDiv, Nat.reducePow, UInt8.reduceToNat, Int.reduceEq, Int.reduceLT, Int.reduceLE, ↓reduceIte, Nat.reduceAdd, Int.reduceToNat, reduceCtorEq, Nat.reduceLeDiff, ↓Gl, ↓Gw, ↓Lp, ↓Lc, ↓Lr, hg2, AP, hml, hcp, Vg, Qe, pr1, pr2, hcp2]
   have hc0 : Y2 (Hg p (i64 ((0 : Nat) : Int)) es) (fun z => if p = z then f p - 1 else f z) := by rw [h0] at hc'; rw [h0]; exact hc'
   have hH2 := (hH.setml hc0).app (T := [Ob.obj 0 (idT p)])
   rw [AP] at hH2
   rw [← AP] at hH2 ⊢
   refine BQ (A3e hH2.inn p fun T => ?_)
   by_cases hpX : p ∈ X
   ·have hpR := hpar p hpm hpX
    have hcont : X.contains p = true := by simpa using hpX
    rw [hcont]
    have hH3 := hH2.app (T := T)
    have hgr := hH3.gr
    have hnm := hH3.nm
    have hlook : GL p (AZ l) = some (ndT pn) := by rw [← hpne]; exact EY hok.1.nodup hpn
    have hqu := hH3.qu
    have hlen3 : (H1.set ml (Ob.mpo (MK.arr 20) (Hg p (i64 ((0 : Nat) : Int)) es)) ++ [Ob.obj 0 (idT p)] ++ T).length = H1.length + 1 + T.length := by simp; omega
    have hpo : (H1.set ml (Ob.mpo (MK.arr 20) (Hg p (i64 ((0 : Nat) : Int)) es)) ++ [Ob.obj 0 (idT p)] ++ T)[H1.length]? = some (Ob.obj 0 (idT p)) := by
     rw [List.append_assoc, List.getElem?_append_right (by simp)]; simp
    generalize H1.set ml (Ob.mpo (MK.arr 20) (Hg p (i64 ((0 : Nat) : Int)) es)) ++ [Ob.obj 0 (idT p)] ++ T = H3 at *
    have hq1 : pn.id = p := hpne
    simp -dsimp (disch := first | assumption | omega | (simp only [Ad]; done) | (simp only [Ad]; omega)) only [↓Ah, Ae, Ag, Ai, eq_self, forall_const, Nat.reduceLT, Nat.reduceEqDiff, Nat.reduceSub, Nat.reduceMul, Nat.reduceMod, Nat.reduceDiv, Nat.reducePow, UInt8.reduceToNat, Int.reduceEq, Int.reduceLT, Int.reduceLE, ↓reduceIte, Nat.reduceAdd, Int.reduceToNat, reduceCtorEq, Nat.reduceLeDiff, ↓U5, hgr, hnm, hpo, Ci, Be, AP, hlook, Bf]
    rw [← Bf]
    have hle := hqi.le
    refine BQ (Asi hqu (by omega) hh (h20 pn hpn) fun H4 g4 a1 a2 a3 a4 => ?_)
    simp -dsimp (disch := first | assumption | omega | (simp only [Ad]; done) | (simp only [Ad]; omega)) only [↓Ah, Ae, Ag, Ai, eq_self, forall_const, Nat.reduceLT, Nat.reduceEqDiff, Nat.reduceSub, Nat.reduceMul, Nat.reduceMod, Nat.reduceDiv, Nat.reducePow, UInt8.reduceToNat, Int.reduceEq, Int.reduceLT, Int.reduceLE, ↓reduceIte, Nat.reduceAdd, Int.reduceToNat, reduceCtorEq, Nat.reduceLeDiff]
    subst hq1
    exact AY (y.ps.length - (j + 1)) (by omega) (by have := a2.1; omega) ⟨j + 1, n' + 1, g4, _, rfl, by omega, hf', hH3.fq a2 a1, by have := a2.1; omega, (hqi.push hok.1.nodup hpn h0 hpR).sh a3, a4, by simp [forget, get]⟩
   ·have hcont : X.contains p = false := by simpa using hpX
    rw [hcont]
    simp -dsimp (disch := first | assumption | omega | (simp only [Ad]; done) | (simp only [Ad]; omega)) only [↓Ah, Ae, Ag, Ai, eq_self, forall_const, Nat.reduceLT, Nat.reduceEqDiff, Nat.reduceSub, Nat.reduceMul, Nat.reduceMod, Nat.reduceDiv, Nat.reducePow, UInt8.reduceToNat, Int.reduceEq, Int.reduceLT, Int.reduceLE, ↓reduceIte, Nat.reduceAdd, Int.reduceToNat, reduceCtorEq, Nat.reduceLeDiff]
    exact AY (y.ps.length - (j + 1)) (by omega) (by simp; omega) ⟨j + 1, n', g', _, rfl, by omega, hf', hH2.app, by simp; omega, hqi.dec hf1 (fun _ hr => hpX (hRX p hr)), hh, by simp [forget, get]⟩
  ·simp -dsimp (disch := first | assumption | omega | (simp only [Ad]; done) | (simp only [Ad]; omega)) only [↓Ah, Ae, Ag, Ai, eq_self, forall_const, Nat.reduceLT, Nat.reduceEqDiff, Nat.reduceSub, Nat.reduceMul, Nat.reduceMod, Nat.reduceDiv, Nat.reducePow, UInt8.reduceToNat, Int.reduceEq, Int.reduceLT, Int.reduceLE, ↓reduceIte, Nat.reduceAdd, Int.reduceToNat, reduceCtorEq, Nat.reduceLeDiff, ↓Gl, ↓Gw, ↓Lp, ↓Lc, ↓Lr, hg2, AP, hml, hcp, Vg, Qe, pr1, pr2, hcp2]
   exact AY (y.ps.length - (j + 1)) (by omega) (by simp; omega) ⟨j + 1, n', g', _, rfl, by omega, hf', (hH.setml hc').app, by simp; omega, hqi.dec hf1 (fun h => absurd h h0), hh, by simp [forget, get]⟩
end Go.Proofs.YtingoaihnlhiaaaDoor


namespace Go.Proofs.YtingoaihnlhiaaaDoor
open Go.RowKit
variable [Bc]
set_option linter.unusedSectionVars false
set_option linter.unusedVariables false
set_option linter.unusedSimpArgs false

theorem OH.congr {l : List Nd} {X : List (List UInt8)} {gi mi mn ml q r io : Nat} {H : List Ob} {f f' : List UInt8 → Nat} {n : Nat} {g : Nat → Nd} {pre : List (List UInt8)} {v : Nat} (h : OH l X gi mi mn ml q r io H f n g pre v) (e : ∀ z, f' z = f z) : OH l X gi mi mn ml q r io H f' n g pre v :=
 ⟨h.ix, h.gr, h.nm, h.inn, by obtain ⟨es, h1, h2⟩ := h.cn; exact ⟨es, h1, h2.congr e⟩, h.qu, h.ou⟩
theorem AjQ {l : List Nd} (hok : GOk l) (hl : l.length ≤ 100) (hp : ∀ n ∈ l, n.ps.length ≤ 1000) (h20 : ∀ n ∈ l, n.id.length = 20) {X : List (List UInt8)} (hXn : X.Nodup) (hX : ∀ x ∈ X, x ∈ AL l) {gi mi mn ml q r : Nat} {H : List Ob} {n0 : Nat} {g0 : Nat → Nd}
  (ix : mi < gi ∧ gi < mn ∧ mn < ml ∧ ml < r ∧ r < q) (hgr : H[gi]? = some (.obj 0 (.agg [.mp mi 0, .val (.map none)]))) (hnm : H[mi]? = some (.mpo (.arr 20) (AZ l))) (hin : Ry (.arr 20) H[mn]? = some (Ko X)) (hcn : ∃ es, H[ml]? = some (.mpo (.arr 20) es) ∧ Y2 es (cnt l X)) (hqu : Qu H q r n0 g0)
  (hqi : QIn l X (cnt l X) n0 g0) (hh : Hp 0 n0 g0) {K : TV → List Ob → Prop} (hK : ∀ ids H' io v cp, AdU l (· ∈ X) ids → ids.length ≤ l.length → H'[io]? = some (.obj v (.arr ids.length 20 (ids.map idT))) → K (.tup [.os 20 io v [] 0 ids.length cp, .val .nilIface]) H') :
  vwp Tryd.prog Jc (Yc Ff K) [(8, .op gi 0 []), (11, .mp mn 0), (13, .mp ml 0), (17, .op q 0 [])] H := by
 have hql : q < H.length := by obtain ⟨_, _, h1, _⟩ := hqu; exact Ap h1
 have hXl : X.length ≤ l.length := by
  have := Gf hXn hX
  simpa [AL] using this
 simp -dsimp (disch := first | assumption | omega | (simp only [Ad]; done) | (simp only [Ad]; omega)) only [↓Ah, Ae, Ag, Ai, eq_self, forall_const, Nat.reduceLT, Nat.reduceEqDiff, Nat.reduceSub, Nat.reduceMul, Nat.reduceMod, Nat.reduceDiv, Nat.reducePow, UInt8.reduceToNat, Int.reduceEq, Int.reduceLT, Int.reduceLE, ↓reduceIte, Nat.reduceAdd, Int.reduceToNat, reduceCtorEq, Nat.reduceLeDiff, ↓UQ, ↓VB]
 refine BN (fun m e H' => ∃ (R pre : List (List UInt8)) (n : Nat) (g : Nat → Nd) (v cp : Nat), m = R.length ∧ OH l X gi mi mn ml q r H.length H' (cnt l R) n g pre v ∧ QIn l R (cnt l R) n g ∧ Hp 0 n g ∧ (∀ rest, AdU l (· ∈ R) rest → AdU l (· ∈ X) (pre ++ rest)) ∧ R.Nodup ∧ (∀ x ∈ R, x ∈ X) ∧ (∀ x ∈ X, ¬ x ∈ R → ∀ z ∈ R, ¬ x ∈ pOf l z) ∧
  pre.length + R.length ≤ l.length ∧ pre.length ≤ cp ∧ H.length < H'.length ∧ e = [(8, .op gi 0 []), (11, .mp mn 0), (13, .mp ml 0), (17, .op q 0 []), (19, .os 20 H.length v [] 0 pre.length cp)]) X.length ?_ ?_
 ·refine ⟨X, [], n0, g0, 0, 0, rfl, ⟨⟨ix.1, ix.2.1, ix.2.2.1, ix.2.2.2.1, ix.2.2.2.2, hql⟩, ?_, ?_, ?_, ?_, hqu.app, ?_⟩, hqi, hh, fun rest h => h, hXn, fun x hx => hx, fun x hx hno => absurd hx hno, by simpa using hXl, Nat.le_refl _, by simp, by simp [forget, get]⟩
  ·rw [A7 (Ap hgr)]; exact hgr
  ·rw [A7 (Ap hnm)]; exact hnm
  ·rw [A7 (Qi hin)]; exact hin
  ·obtain ⟨es, h1, h2⟩ := hcn; exact ⟨es, by rw [A7 (Ap h1)]; exact h1, h2⟩
  ·rw [Ro rfl]; rfl
 ·clear hgr hnm hin hcn hqi hh hqu
  rintro m e H1 ⟨R, pre, n, g, v, cp, rfl, hH, hqi, hh, hrest, hRn, hRX, hcl, hlen, hcp, hHl, rfl⟩
  have hle := hqi.le
  obtain ⟨vq, cpq, hq, hrow, hcpq, hne⟩ := hH.qu
  have hou := hH.ou
  simp -dsimp (disch := first | assumption | omega | (simp only [Ad]; done) | (simp only [Ad]; omega)) only [↓Ah, Ae, Ag, Ai, eq_self, forall_const, Nat.reduceLT, Nat.reduceEqDiff, Nat.reduceSub, Nat.reduceMul, Nat.reduceMod, Nat.reduceDiv, Nat.reducePow, UInt8.reduceToNat, Int.reduceEq, Int.reduceLT, Int.reduceLE, ↓reduceIte, Nat.reduceAdd, Int.reduceToNat, reduceCtorEq, Nat.reduceLeDiff, ↓Vx, hq]
  refine BQ (lenV (by omega) ?_)
  rcases n with _ | n
  ·have hfin := hrest [] (.none fun x hx => by
    obtain ⟨h1, h2⟩ := Adv.1 hx
    obtain ⟨nd, hnd, rfl⟩ := List.mem_map.1 (hX x (hRX x h1))
    obtain ⟨k, hk, _⟩ := (hqi.mem nd).2 ⟨hnd, h1, h2⟩
    omega)
   rw [List.append_nil] at hfin
   simp -dsimp (disch := first | assumption | omega | (simp only [Ad]; done) | (simp only [Ad]; omega)) only [↓Ah, Ae, Ag, Ai, eq_self, forall_const, Nat.reduceLT, Nat.reduceEqDiff, Nat.reduceSub, Nat.reduceMul, Nat.reduceMod, Nat.reduceDiv, Nat.reducePow, UInt8.reduceToNat, Int.reduceEq, Int.reduceLT, Int.reduceLE, ↓reduceIte, Nat.reduceAdd, Int.reduceToNat, reduceCtorEq, Nat.reduceLeDiff, ↓UO, ↓Tm]
   exact hK pre _ _ _ _ hfin (by omega) hou
  ·simp -dsimp (disch := first | assumption | omega | (simp only [Ad]; done) | (simp only [Ad]; omega)) only [↓Ah, Ae, Ag, Ai, eq_self, forall_const, Nat.reduceLT, Nat.reduceEqDiff, Nat.reduceSub, Nat.reduceMul, Nat.reduceMod, Nat.reduceDiv, Nat.reducePow, UInt8.reduceToNat, Int.reduceEq, Int.reduceLT, Int.reduceLE, ↓reduceIte, Nat.reduceAdd, Int.reduceToNat, reduceCtorEq, Nat.reduceLeDiff, ↓LZ]
   refine BQ (A3s hH.qu hh fun H2 g2 a1 a2 a3 a4 => ?_)
   obtain ⟨y, hy0⟩ : ∃ y, y = g 0 := ⟨_, rfl⟩
   have hyc := (hqi.mem y).1 ⟨0, by omega, hy0.symm⟩
   obtain ⟨hyl, hyR, hy0c⟩ := hyc
   rw [← hy0]
   have hH2 := hH.fq a2 a1
   have hou2 := hH2.ou
   have hH2l := Ap hou2
   have hpt : (pre.map idT).take pre.length = pre.map idT := EX rfl
   simp -dsimp (disch := first | assumption | omega | (simp only [Ad]; done) | (simp only [Ad]; omega)) only [↓Ah, Ae, Ag, Ai, eq_self, forall_const, Nat.reduceLT, Nat.reduceEqDiff, Nat.reduceSub, Nat.reduceMul, Nat.reduceMod, Nat.reduceDiv, Nat.reducePow, UInt8.reduceToNat, Int.reduceEq, Int.reduceLT, Int.reduceLE, ↓reduceIte, Nat.reduceAdd, Int.reduceToNat, reduceCtorEq, Nat.reduceLeDiff, ↓LZ, ↓VI, ↓VH, Bf, PW, LP, hou2, hpt]
   have hset : H2.set H.length (Ob.obj (v + 1) (.arr (pre.length + 1) 20 (pre.map idT ++ [.arr 20 1 (y.id.map by8)]))) = H2.set H.length (Ob.obj (v + 1) (.arr (pre ++ [y.id]).length 20 ((pre ++ [y.id]).map idT))) := by simp [AP]
   rw [hset]
   have hpy : pOf l y.id = y.ps := Xm hok.1.nodup hyl
   have hce : ∀ z, cnt l (R.erase y.id) z + y.ps.count z = cnt l R z := fun z => by rw [Af3 hyR z, hpy]
   have hH3 := ((((hH2.seto (pre' := pre ++ [y.id]) (v' := v + 1)).congr hce).app (T := [Ob.obj 0 (TV.agg [TV.arr 20 1 (List.map by8 y.id), TV.sl 20 (List.map idT y.ps), i64 y.tm])])).app (T := [Ob.obj 0 (TV.arr 1 20 [TV.arr 20 1 (List.map by8 y.id)])]))
   have hqi2 : QIn l (R.erase y.id) (fun z => cnt l (R.erase y.id) z + y.ps.count z) n g2 := by
    have h1 := hqi.pop hok.1.nodup hRn
    rw [← hy0] at h1
    exact (h1.sh a3).congr hce
   have hRn' := hRn.erase y.id
   have hRl' : (R.erase y.id).length + 1 = R.length := by
    rw [List.length_erase_of_mem hyR]
    have := List.length_pos_of_mem hyR
    omega
   have hRX' : ∀ x ∈ R.erase y.id, x ∈ X := fun x hx => hRX x (List.mem_of_mem_erase hx)
   have hnc : ∀ p ∈ y.ps, p ≠ y.id := fun p hp e => hok.2 ⟨y, hyl, .base (by rw [← e]; exact hp)⟩
   have e1 : (H2.set H.length (Ob.obj (v + 1) (.arr (pre ++ [y.id]).length 20 ((pre ++ [y.id]).map idT)))).length = H2.length := by simp
   have el : pre.length + 1 = (pre ++ [y.id]).length := by simp
   rw [el]
   refine Ag8 hok hl hp h20 hX hRX' hRn' hyl (fun p hp hpX => ?_) hH3 hqi2 a4 fun e' H4 n4 g4 q8 q11 q13 q17 q19 b1 b2 b3 b4 => ?_
   ·rw [hRn.mem_erase_iff]
    refine ⟨hnc p hp, Classical.byContradiction fun hno => ?_⟩
    have := hcl p hpX hno y.id hyR
    rw [hpy] at this; exact this hp
   ·have hb2 : H.length < H4.length := by simp at b2; omega
    rw [Aha]
    refine AY (R.erase y.id).length (by omega) (by omega) ⟨R.erase y.id, pre ++ [y.id], n4, g4, v + 1, (pre ++ [y.id]).length, rfl, b1, b3, b4, fun rest hr => ?_, hRn', hRX', fun x hx hxR z hz => ?_, by simp; omega, Nat.le_refl _, hb2, by simp [forget, q8, q11, q13, q17, q19]⟩
    ·rw [List.append_assoc]
     refine hrest _ (.take hyl (Adv.2 ⟨hyR, hy0c⟩) (fun m hm hf hne => ?_) (hr.congr fun z => ?_))
     ·obtain ⟨hmR, hm0⟩ := Adv.1 hf
      obtain ⟨k, hk, rfl⟩ := (hqi.mem m).2 ⟨hm, hmR, hm0⟩
      have := hh.first k hk
      rw [← hy0] at this
      exact this.less (Ne.symm hne)
     ·rw [hRn.mem_erase_iff]; exact and_comm
    ·have hzR := List.mem_of_mem_erase hz
     by_cases c : x ∈ R
     ·have : x = y.id := Classical.byContradiction fun hne => hxR (hRn.mem_erase_iff.2 ⟨hne, c⟩)
      subst this
      exact Ad7.1 hy0c z hzR
     ·exact hcl x hx c z hzR
end Go.Proofs.YtingoaihnlhiaaaDoor


namespace Go.Proofs.YtingoaihnlhiaaaDoor
open Go.RowKit
variable [Bc]
set_option linter.unusedSectionVars false
set_option linter.unusedVariables false
set_option linter.unusedSimpArgs false

end Go.Proofs.YtingoaihnlhiaaaDoor


namespace Go.Proofs.YtingoaihnlhiaaaDoor
open Go.RowKit
variable [Bc]
set_option linter.unusedSectionVars false
set_option linter.unusedVariables false
set_option linter.unusedSimpArgs false

end Go.Proofs.YtingoaihnlhiaaaDoor


namespace Go.Proofs.YtingoaihnlhiaaaDoor
open Go.RowKit
variable [Bc]
set_option linter.unusedSectionVars false
set_option linter.unusedVariables false
set_option linter.unusedSimpArgs false

/-- Another one of these reaches it. -/
def AeH (l : List Nd) (s : List (List UInt8)) (x : List UInt8) : Prop := ∃ k ∈ s, k ≠ x ∧ Rc l [k] x
noncomputable def VP (l : List Nd) (s : List (List UInt8)) : List (List UInt8) := s.filter fun x => !dec (AeH l s x)
end Go.Proofs.YtingoaihnlhiaaaDoor


namespace Go.Proofs.YtingoaihnlhiaaaDoor
open Go.RowKit
variable [Bc]
set_option linter.unusedSectionVars false
set_option linter.unusedVariables false
set_option linter.unusedSimpArgs false

end Go.Proofs.YtingoaihnlhiaaaDoor


namespace Go.Proofs.YtingoaihnlhiaaaDoor
open Go.RowKit
variable [Bc]
set_option linter.unusedSectionVars false
set_option linter.unusedVariables false
set_option linter.unusedSimpArgs false

theorem ArN (A : List (List UInt8)) (hA : A.length ≤ 100000) : Gh Tryd.prog 11 [.sl 20 (A.map idT), .sl 20 (A.map idT)] (fun r => r = tb true) := by
 refine Aq.toPureV (YK (by simp) ?_)
 simp -dsimp (disch := first | assumption | omega | (simp only [Ad]; done) | (simp only [Ad]; omega)) only [↓Ah, Ae, Ag, Ai, eq_self, forall_const, Nat.reduceLT, Nat.reduceEqDiff, Nat.reduceSub, Nat.reduceMul, Nat.reduceMod, Nat.reduceDiv, Nat.reducePow, UInt8.reduceToNat, Int.reduceEq, Int.reduceLT, Int.reduceLE, ↓reduceIte, Nat.reduceAdd, Int.reduceToNat, reduceCtorEq, Nat.reduceLeDiff, ↓LY]
 refine BN (fun q e H => ∃ i : Nat, q = A.length - i ∧ i ≤ A.length ∧ e = [(0, .sl 20 (A.map idT)), (1, .sl 20 (A.map idT)), (5, i64 (i : Int))] ∧ H = []) A.length ?_ ?_
 ·exact ⟨0, by simp, by simp, by simp [forget, get], rfl⟩
 ·rintro q e H ⟨i, rfl, hi, rfl, rfl⟩
  by_cases h : i < A.length
  ·have hg : A[i]? = some A[i] := List.getElem?_eq_getElem h
   generalize A[i] = x at *
   have hb : (x == x) = true := by simp
   simp -dsimp (disch := first | assumption | omega | (simp only [Ad]; done) | (simp only [Ad]; omega)) only [↓Ah, Ae, Ag, Ai, eq_self, forall_const, Nat.reduceLT, Nat.reduceEqDiff, Nat.reduceSub, Nat.reduceMul, Nat.reduceMod, Nat.reduceDiv, Nat.reducePow, UInt8.reduceToNat, Int.reduceEq, Int.reduceLT, Int.reduceLE, ↓reduceIte, Nat.reduceAdd, Int.reduceToNat, reduceCtorEq, Nat.reduceLeDiff, ↓LY, hg, AP, hb]
   exact AY (A.length - (i + 1)) (by omega) (by simp) ⟨i + 1, rfl, by omega, by simp [forget, get], rfl⟩
  ·have hi2 : i = A.length := by omega
   subst hi2
   simp -dsimp (disch := first | assumption | omega | (simp only [Ad]; done) | (simp only [Ad]; omega)) only [↓Ah, Ae, Ag, Ai, eq_self, forall_const, Nat.reduceLT, Nat.reduceEqDiff, Nat.reduceSub, Nat.reduceMul, Nat.reduceMod, Nat.reduceDiv, Nat.reducePow, UInt8.reduceToNat, Int.reduceEq, Int.reduceLT, Int.reduceLE, ↓reduceIte, Nat.reduceAdd, Int.reduceToNat, reduceCtorEq, Nat.reduceLeDiff, ↓LY]
end Go.Proofs.YtingoaihnlhiaaaDoor


namespace Go.Proofs.YtingoaihnlhiaaaDoor
open Go.RowKit
variable [Bc]
set_option linter.unusedSectionVars false
set_option linter.unusedVariables false
set_option linter.unusedSimpArgs false

/-- slices.IndexFunc of a row of one's own. -/
theorem Afm {ids : List (List UInt8)} {id ver N cp : Nat} {cs : List TV} (hcs : ∀ (i : Nat) x, ids[i]? = some x → cs[i]? = some (idT x)) (hlen : ids.length ≤ 100000) {p : List UInt8 → Bool} {H : List Ob} (hid : H[id]? = some (.obj ver (.arr N 20 cs))) {g : FuncId} {a caps : List TV} (hgo : Ue Tryd.prog g = true) (hp : ∀ x ∈ ids, ∀ T K, (∀ T', K (tb (p x)) (H ++ T ++ T')) → Aq Tryd.prog g (a ++ [idT x] ++ caps) (H ++ T) K) {K : TV → List Ob → Prop}
  (hK : ∀ T, K (i64 (if ids.any p then ((ids.findIdx p : Nat) : Int) else -1)) (H ++ T)) : Aq Tryd.prog 58 [.os 20 id ver [] 0 ids.length cp, .fn (.func g) a caps] H K := by
 have hil := Ap hid
 refine BG (by simp) ?_
 simp -dsimp (disch := first | assumption | omega) only [↓Ah, Ae, Ag, Ai, eq_self, forall_const, Nat.reduceLT, Nat.reduceEqDiff, Nat.reduceSub, Nat.reduceMul, Nat.reduceMod, Nat.reduceDiv, Nat.reducePow, UInt8.reduceToNat, Int.reduceEq, Int.reduceLT, Int.reduceLE, ↓reduceIte, Nat.reduceAdd, Int.reduceToNat, reduceCtorEq, Nat.reduceLeDiff, ↓Am]
 refine BN (fun q e H' => ∃ (i : Nat) (T : List Ob), q = ids.length - i ∧ i ≤ ids.length ∧ (∀ x ∈ ids.take i, p x = false) ∧ e = [(0, .os 20 id ver [] 0 ids.length cp), (1, .fn (.func g) a caps), (7, i64 (ids.length : Int)), (8, i64 (i : Int))] ∧ H' = H ++ T) ids.length ?_ ?_
 ·exact ⟨0, [], by simp, by simp, by simp, rfl, by simp⟩
 ·rintro q e H' ⟨i, T, rfl, hi, hno, rfl, rfl⟩
  by_cases h : i < ids.length
  ·have hg : ids[i]? = some ids[i] := List.getElem?_eq_getElem h
   have hsucc := List.take_succ_eq_append_getElem h
   have hpx := hp ids[i] (List.getElem_mem h) T
   generalize ids[i] = x at *
   have hg2 : cs[i]? = some (idT x) := hcs _ _ hg
   rw [AP] at hg2
   simp -dsimp (disch := first | assumption | omega | (simp only [Ad]; done) | (simp only [Ad]; omega)) only [↓Ah, Ae, Ag, Ai, eq_self, forall_const, Nat.reduceLT, Nat.reduceEqDiff, Nat.reduceSub, Nat.reduceMul, Nat.reduceMod, Nat.reduceDiv, Nat.reducePow, UInt8.reduceToNat, Int.reduceEq, Int.reduceLT, Int.reduceLE, ↓reduceIte, Nat.reduceAdd, Int.reduceToNat, reduceCtorEq, Nat.reduceLeDiff, ↓Am, hid, hg2, hgo, AP]
   refine BQ (hpx _ fun T' => ?_)
   by_cases hpt : p x = true
   ·rw [hpt]
    simp -dsimp (disch := first | assumption | omega | (simp only [Ad]; done) | (simp only [Ad]; omega)) only [↓Ah, Ae, Ag, Ai, eq_self, forall_const, Nat.reduceLT, Nat.reduceEqDiff, Nat.reduceSub, Nat.reduceMul, Nat.reduceMod, Nat.reduceDiv, Nat.reducePow, UInt8.reduceToNat, Int.reduceEq, Int.reduceLT, Int.reduceLE, ↓reduceIte, Nat.reduceAdd, Int.reduceToNat, reduceCtorEq, Nat.reduceLeDiff, ↓Am]
    obtain ⟨e1, e2⟩ := AaS hg hno hpt
    rw [if_pos e2, e1] at hK
    simp only [List.append_assoc]
    exact hK _
   ·have hpf : p x = false := by simpa using hpt
    rw [hpf]
    simp -dsimp (disch := first | assumption | omega | (simp only [Ad]; done) | (simp only [Ad]; omega)) only [↓Ah, Ae, Ag, Ai, eq_self, forall_const, Nat.reduceLT, Nat.reduceEqDiff, Nat.reduceSub, Nat.reduceMul, Nat.reduceMod, Nat.reduceDiv, Nat.reducePow, UInt8.reduceToNat, Int.reduceEq, Int.reduceLT, Int.reduceLE, ↓reduceIte, Nat.reduceAdd, Int.reduceToNat, reduceCtorEq, Nat.reduceLeDiff, ↓Am]
    refine AY (ids.length - (i + 1)) (by omega) (by simp) ⟨i + 1, T ++ T', rfl, by omega, fun y hy => ?_, by simp [forget, get], by simp⟩
    rw [hsucc, List.mem_append, List.mem_singleton] at hy
    rcases hy with hy | rfl
    ·exact hno y hy
    ·exact hpf
  ·have hi2 : i = ids.length := by omega
   subst hi2
   rw [List.take_length] at hno
   simp -dsimp (disch := first | assumption | omega | (simp only [Ad]; done) | (simp only [Ad]; omega)) only [↓Ah, Ae, Ag, Ai, eq_self, forall_const, Nat.reduceLT, Nat.reduceEqDiff, Nat.reduceSub, Nat.reduceMul, Nat.reduceMod, Nat.reduceDiv, Nat.reducePow, UInt8.reduceToNat, Int.reduceEq, Int.reduceLT, Int.reduceLE, ↓reduceIte, Nat.reduceAdd, Int.reduceToNat, reduceCtorEq, Nat.reduceLeDiff, ↓Am]
   have hany : ¬ ids.any p = true := by
    rw [List.any_eq_true]
    rintro ⟨y, hy, h⟩
    rw [hno y hy] at h; cases h
   rw [if_neg hany] at hK
   exact hK _
end Go.Proofs.YtingoaihnlhiaaaDoor


namespace Go.Proofs.YtingoaihnlhiaaaDoor
open Go.RowKit
variable [Bc]
set_option linter.unusedSectionVars false
set_option linter.unusedVariables false
set_option linter.unusedSimpArgs false

theorem Ac7 : ∀ (l : List (List UInt8)) (y x : List UInt8), dd (l ++ [y] ++ [x]) = if y = x then dd (l ++ [y]) else dd (l ++ [y]) ++ [x]
 | [], y, x => by
  simp only [List.nil_append, List.cons_append, dd]
  split
  ·rename_i h; rw [h]
  ·rfl
 | [a], y, x => by
  have ih := Ac7 [] y x
  simp only [List.nil_append, List.cons_append] at ih ⊢
  rw [dd, ih, dd]
  by_cases h : y = x <;> by_cases h2 : a = y <;> simp [h, h2, dd]
 | a :: b :: l, y, x => by
  have ih := Ac7 (b :: l) y x
  simp only [List.cons_append] at ih ⊢
  rw [dd, ih, dd]
  by_cases h : y = x <;> by_cases h2 : a = b <;> simp [h, h2]
theorem Ahx {d : List (List UInt8)} {q : Nat} {y x : List UInt8} (hy : d[q]? = some y) (hx : d[q + 1]? = some x) : dd (d.take (q + 2)) = if y = x then dd (d.take (q + 1)) else dd (d.take (q + 1)) ++ [x] := by
 obtain ⟨h1, rfl⟩ := List.getElem?_eq_some_iff.1 hy
 obtain ⟨h2, rfl⟩ := List.getElem?_eq_some_iff.1 hx
 rw [List.take_succ_eq_append_getElem h2, List.take_succ_eq_append_getElem h1]
 exact Ac7 _ _ _
theorem SQ {α : Type} {H : List α} {i : Nat} {o : α} (h : H[i]? = some o) : H.set i o = H := by
 obtain ⟨h1, rfl⟩ := List.getElem?_eq_some_iff.1 h
 exact List.set_getElem_self h1
theorem Xr {α : Type} (cs : List α) (m : Nat) (v : α) (h : m < cs.length) : (cs.set m v).take (m + 1) = cs.take m ++ [v] := by
 rw [List.take_succ_eq_append_getElem (by simpa using h)]
 simp [List.take_set_of_le]
theorem AkJ {d : List (List UInt8)} (hlen : d.length ≤ 100000) {id ver cp : Nat} (hcp : d.length ≤ cp) {H : List Ob} (hid : H[id]? = some (.obj ver (.arr d.length 20 (d.map idT)))) {K : TV → List Ob → Prop}
  (hK : ∀ cs, cs.length = d.length → cs.take (dd d).length = (dd d).map idT → (∀ c ∈ cs, AC c = 20) → K (.os 20 id ver [] 0 (dd d).length cp) (H.set id (.obj ver (.arr d.length 20 cs)))) : Aq Tryd.prog 48 [.os 20 id ver [] 0 d.length cp] H K := by
 have hil := Ap hid
 have same : dd d = d → K (.os 20 id ver [] 0 d.length cp) H := fun e => by
  have := hK (d.map idT) (by simp) (by rw [e, List.take_of_length_le (by simp)]) (fun c hc => by obtain ⟨x, _, rfl⟩ := List.mem_map.1 hc; exact Be)
  rwa [e, SQ hid] at this
 refine Es (by simp) ?_
 by_cases h2 : d.length < 2
 ·simp -dsimp (disch := first | assumption | omega | (simp only [Ad]; done) | (simp only [Ad]; omega)) only [↓Ah, Ae, Ag, Ai, eq_self, forall_const, Nat.reduceLT, Nat.reduceEqDiff, Nat.reduceSub, Nat.reduceMul, Nat.reduceMod, Nat.reduceDiv, Nat.reducePow, UInt8.reduceToNat, Int.reduceEq, Int.reduceLT, Int.reduceLE, ↓reduceIte, Nat.reduceAdd, Int.reduceToNat, reduceCtorEq, Nat.reduceLeDiff, ↓Az]
  refine same ?_
  rcases d with _ | ⟨a, _ | ⟨b, l⟩⟩
  ·rfl
  ·rfl
  ·simp only [List.length_cons] at h2; omega
 ·simp -dsimp (disch := first | assumption | omega | (simp only [Ad]; done) | (simp only [Ad]; omega)) only [↓Ah, Ae, Ag, Ai, eq_self, forall_const, Nat.reduceLT, Nat.reduceEqDiff, Nat.reduceSub, Nat.reduceMul, Nat.reduceMod, Nat.reduceDiv, Nat.reducePow, UInt8.reduceToNat, Int.reduceEq, Int.reduceLT, Int.reduceLE, ↓reduceIte, Nat.reduceAdd, Int.reduceToNat, reduceCtorEq, Nat.reduceLeDiff, ↓Az]
  refine BN (fun q e H' => ∃ k : Nat, q = d.length - (k + 1) ∧ k + 1 ≤ d.length ∧ dd (d.take (k + 1)) = d.take (k + 1) ∧ e = [(0, .os 20 id ver [] 0 d.length cp), (3, i64 ((k + 1 : Nat) : Int))] ∧ H = H') (d.length - 1) ?_ ?_
  ·refine ⟨0, by omega, by omega, ?_, rfl, rfl⟩
   rcases d with _ | ⟨a, l⟩
   ·rfl
   ·simp [dd]
  ·rintro q e H' ⟨k, rfl, hk, hdk, rfl, rfl⟩
   by_cases h3 : k + 1 < d.length
   ·have hy : d[k]? = some d[k] := List.getElem?_eq_getElem (by omega)
    have hx : d[k + 1]? = some d[k + 1] := List.getElem?_eq_getElem h3
    have hnx := Ahx hy hx
    have hsucc := List.take_succ_eq_append_getElem h3
    generalize d[k] = y at *
    generalize d[k + 1] = x at *
    have hgy : (d.map idT)[k]? = some (.arr 20 1 (y.map by8)) := by rw [List.getElem?_map, hy, ← AP]; rfl
    have hgx : (d.map idT)[k + 1]? = some (.arr 20 1 (x.map by8)) := by rw [List.getElem?_map, hx, ← AP]; rfl
    by_cases hxy : x = y
    ·subst hxy
     have hb : (x == x) = true := by simp
     rw [if_pos rfl] at hnx
     simp -dsimp (disch := first | assumption | omega | (simp only [Ad]; done) | (simp only [Ad]; omega)) only [↓Ah, Ae, Ag, Ai, eq_self, forall_const, Nat.reduceLT, Nat.reduceEqDiff, Nat.reduceSub, Nat.reduceMul, Nat.reduceMod, Nat.reduceDiv, Nat.reducePow, UInt8.reduceToNat, Int.reduceEq, Int.reduceLT, Int.reduceLE, ↓reduceIte, Nat.reduceAdd, Int.reduceToNat, reduceCtorEq, Nat.reduceLeDiff, ↓Az, hid, hgy, hgx, hb]
     refine BN (fun q e H' => ∃ (r m : Nat) (cs : List TV), q = d.length - (k + 1 + r) ∧ k + 2 + r ≤ d.length ∧ m = (dd (d.take (k + 2 + r))).length ∧ m ≤ k + 1 + r ∧ cs.length = d.length ∧ cs.take m = (dd (d.take (k + 2 + r))).map idT ∧ (∀ j, k + 1 + r ≤ j → cs[j]? = (d.map idT)[j]?) ∧ (∀ c ∈ cs, AC c = 20) ∧
      e = [(0, .os 20 id ver [] 0 d.length cp), (3, i64 (m : Int)), (4, .os 20 id ver [] (k + 1) (d.length - (k + 1)) (cp - (k + 1))), (5, i64 ((r + 1 : Nat) : Int))] ∧ H' = H.set id (.obj ver (.arr d.length 20 cs))) (d.length - (k + 1)) ?_ ?_
     ·refine ⟨0, k + 1, d.map idT, by omega, by omega, ?_, by omega, by simp, ?_, fun j hj => rfl, fun c hc => by obtain ⟨x, _, rfl⟩ := List.mem_map.1 hc; exact Be, rfl, by rw [SQ hid]⟩
      ·rw [Nat.add_zero, hnx, hdk, List.length_take]; omega
      ·rw [Nat.add_zero, hnx, hdk, ← List.map_take]
     ·rintro q e H' ⟨r, m, cs, rfl, hr, hm, hmr, hcl, hct, hco, hcw0, rfl, rfl⟩
      by_cases h4 : k + 2 + r < d.length
      ·have gy : d[k + 1 + r]? = some d[k + 1 + r] := List.getElem?_eq_getElem (by omega)
       have gx : d[k + 1 + r + 1]? = some d[k + 1 + r + 1] := List.getElem?_eq_getElem (by omega)
       have gnx := Ahx gy gx
       generalize d[k + 1 + r] = y' at *
       generalize d[k + 1 + r + 1] = x' at *
       have e1 : k + 1 + r + 2 = k + 2 + (r + 1) := by omega
       have e2 : k + 1 + r + 1 = k + 2 + r := by omega
       rw [e1, e2] at gnx
       have cy : cs[k + 1 + r]? = some (.arr 20 1 (y'.map by8)) := by rw [hco _ (Nat.le_refl _), List.getElem?_map, gy, ← AP]; rfl
       have cx : cs[k + 1 + (r + 1)]? = some (.arr 20 1 (x'.map by8)) := by rw [hco _ (by omega), List.getElem?_map, ← Nat.add_assoc, gx, ← AP]; rfl
       by_cases hxy2 : x' = y'
       ·subst hxy2
        have hb2 : (x' == x') = true := by simp
        rw [if_pos rfl] at gnx
        simp -dsimp (disch := first | assumption | omega | (simp only [Ad]; done) | (simp only [Ad]; omega)) only [↓Ah, Ae, Ag, Ai, eq_self, forall_const, Nat.reduceLT, Nat.reduceEqDiff, Nat.reduceSub, Nat.reduceMul, Nat.reduceMod, Nat.reduceDiv, Nat.reducePow, UInt8.reduceToNat, Int.reduceEq, Int.reduceLT, Int.reduceLE, ↓reduceIte, Nat.reduceAdd, Int.reduceToNat, reduceCtorEq, Nat.reduceLeDiff, ↓Az, cy, cx, hb2]
        exact AY (d.length - (k + 1 + (r + 1))) (by omega) (by simp) ⟨r + 1, m, cs, rfl, by omega, by rw [gnx]; exact hm, by omega, hcl, by rw [gnx]; exact hct, fun j hj => (hco j (by omega)).trans (by simp), hcw0, by simp [forget, get], rfl⟩
       ·have hb2 : (x' == y') = false := by simpa using hxy2
        rw [if_neg (fun e => hxy2 e.symm)] at gnx
        obtain ⟨c, hcm, hcw⟩ : ∃ c, cs[m]? = some c ∧ AC c = 20 := ⟨cs[m], List.getElem?_eq_getElem (by omega), hcw0 _ (List.getElem_mem _)⟩
        simp -dsimp (disch := first | assumption | omega | (simp only [Ad]; done) | (simp only [Ad]; omega)) only [↓Ah, Ae, Ag, Ai, eq_self, forall_const, Nat.reduceLT, Nat.reduceEqDiff, Nat.reduceSub, Nat.reduceMul, Nat.reduceMod, Nat.reduceDiv, Nat.reducePow, UInt8.reduceToNat, Int.reduceEq, Int.reduceLT, Int.reduceLE, ↓reduceIte, Nat.reduceAdd, Int.reduceToNat, reduceCtorEq, Nat.reduceLeDiff, ↓Az, cy, cx, hb2, hcm, hcw]
        refine AY (d.length - (k + 1 + (r + 1))) (by omega) (by simp) ⟨r + 1, m + 1, cs.set m (idT x'), rfl, by omega, by rw [gnx, List.length_append, ← hm]; rfl, by omega, by simp [hcl], ?_, fun j hj => ?_, fun c hc => (List.mem_or_eq_of_mem_set hc).elim (hcw0 c) fun e => by rw [e]; exact Be, by simp [forget, get], by rw [AP]⟩
        ·rw [gnx, List.map_append, ← hct, List.map_cons, List.map_nil]
         exact Xr _ _ _ (by omega)
        ·rw [List.getElem?_set_ne (by omega)]; exact (hco j (by omega)).trans (by simp)
      ·have hr2 : k + 2 + r = d.length := by omega
       rw [hr2, List.take_length] at hm hct
       have hml : m ≤ cs.length := by omega
       simp -dsimp (disch := first | assumption | omega | (simp only [Ad]; done) | (simp only [Ad]; omega)) only [↓Ah, Ae, Ag, Ai, eq_self, forall_const, Nat.reduceLT, Nat.reduceEqDiff, Nat.reduceSub, Nat.reduceMul, Nat.reduceMod, Nat.reduceDiv, Nat.reducePow, UInt8.reduceToNat, Int.reduceEq, Int.reduceLT, Int.reduceLE, ↓reduceIte, Nat.reduceAdd, Int.reduceToNat, reduceCtorEq, Nat.reduceLeDiff, ↓Az, hcl]
       subst hm
       rw [← hcl] at hK ⊢
       refine hK _ ?_ ?_ fun c hc => ?_
       ·simp; omega
       ·rw [List.take_append_of_le_length (by simp; omega), List.take_take, Nat.min_self, hct]
       ·simp only [List.mem_append] at hc
        rcases hc with hc | hc | hc
        ·exact hcw0 c (List.mem_of_mem_take hc)
        ·rw [List.eq_of_mem_replicate (List.mem_of_mem_take hc)]; rfl
        ·exact hcw0 c (List.mem_of_mem_drop hc)
    ·have hb : (x == y) = false := by simpa using hxy
     rw [if_neg (fun e => hxy e.symm)] at hnx
     simp -dsimp (disch := first | assumption | omega | (simp only [Ad]; done) | (simp only [Ad]; omega)) only [↓Ah, Ae, Ag, Ai, eq_self, forall_const, Nat.reduceLT, Nat.reduceEqDiff, Nat.reduceSub, Nat.reduceMul, Nat.reduceMod, Nat.reduceDiv, Nat.reducePow, UInt8.reduceToNat, Int.reduceEq, Int.reduceLT, Int.reduceLE, ↓reduceIte, Nat.reduceAdd, Int.reduceToNat, reduceCtorEq, Nat.reduceLeDiff, ↓Az, hid, hgy, hgx, hb]
     exact AY (d.length - (k + 2)) (by omega) (Nat.le_refl _) ⟨k + 1, rfl, by omega, by rw [show k + 1 + 1 = k + 2 from rfl, hnx, hdk, hsucc], by simp [forget, get], rfl⟩
   ·have hk2 : k + 1 = d.length := by omega
    rw [hk2, List.take_length] at hdk
    simp -dsimp (disch := first | assumption | omega | (simp only [Ad]; done) | (simp only [Ad]; omega)) only [↓Ah, Ae, Ag, Ai, eq_self, forall_const, Nat.reduceLT, Nat.reduceEqDiff, Nat.reduceSub, Nat.reduceMul, Nat.reduceMod, Nat.reduceDiv, Nat.reducePow, UInt8.reduceToNat, Int.reduceEq, Int.reduceLT, Int.reduceLE, ↓reduceIte, Nat.reduceAdd, Int.reduceToNat, reduceCtorEq, Nat.reduceLeDiff, ↓Az, hk2]
    exact same hdk
theorem XI {ids : List (List UInt8)} {p : List UInt8 → Bool} (h : ¬ ids.any p = true) : (ids.filter fun x => !p x) = ids := by
 rw [List.filter_eq_self]
 intro x hx
 cases hp : p x with
 | false => rfl
 | true => exact absurd (List.any_eq_true.2 ⟨x, hx, hp⟩) h
theorem Acd {ids : List (List UInt8)} {p : List UInt8 → Bool} (h : ids.any p = true) : ((ids.take (ids.findIdx p + 1)).filter fun x => !p x) = ids.take (ids.findIdx p) ∧ ids.findIdx p < ids.length := by
 have hlt : ids.findIdx p < ids.length := by
  rw [List.findIdx_lt_length]
  rw [List.any_eq_true] at h
  exact h
 refine ⟨?_, hlt⟩
 rw [List.take_succ_eq_append_getElem hlt, List.filter_append]
 have h1 : p ids[ids.findIdx p] = true := List.findIdx_getElem
 have h2 : ((ids.take (ids.findIdx p)).filter fun x => !p x) = ids.take (ids.findIdx p) := by
  rw [List.filter_eq_self]
  intro x hx
  obtain ⟨j, hj, rfl⟩ := List.mem_take_iff_getElem.1 hx
  have := List.not_of_lt_findIdx (p := p) (xs := ids) (i := j) (by omega)
  simpa using this
 rw [h2]; simp [h1]
theorem AdH {ids : List (List UInt8)} {id ver N cp : Nat} {cs0 : List TV} (hcs : cs0.take ids.length = ids.map idT) (hcl : ids.length ≤ cs0.length) (hw0 : ∀ c ∈ cs0, AC c = 20) (hcp : ids.length ≤ cp) (hlen : ids.length ≤ 100000) {p : List UInt8 → Bool} {H : List Ob} (hid : H[id]? = some (.obj ver (.arr N 20 cs0))) {g : FuncId} {a caps : List TV} (hnt : Oh (a ++ caps)) (hgo : Ue Tryd.prog g = true)
  (hp : ∀ x ∈ ids, ∀ cs T K, (∀ T', K (tb (p x)) (H.set id (.obj ver (.arr N 20 cs)) ++ T ++ T')) → Aq Tryd.prog g (a ++ [idT x] ++ caps) (H.set id (.obj ver (.arr N 20 cs)) ++ T) K) {K : TV → List Ob → Prop}
  (hK : ∀ cs T, cs.length = cs0.length → cs.take (ids.filter fun x => !p x).length = (ids.filter fun x => !p x).map idT → K (.os 20 id ver [] 0 (ids.filter fun x => !p x).length cp) (H.set id (.obj ver (.arr N 20 cs)) ++ T)) : Aq Tryd.prog 49 [.os 20 id ver [] 0 ids.length cp, .fn (.func g) a caps] H K := by
 have hil := Ap hid
 have hat : ∀ (i : Nat) x, ids[i]? = some x → cs0[i]? = some (idT x) := by
  intro i x hx
  have hi := Ap hx
  have h1 : (cs0.take ids.length)[i]? = some (idT x) := by rw [hcs, List.getElem?_map, hx]; rfl
  rwa [List.getElem?_take, if_pos hi] at h1
 refine Dt (by simp) ?_
 simp -dsimp (disch := first | assumption | omega | (simp only [Ad]; done) | (simp only [Ad]; omega)) only [↓Ah, Ae, Ag, Ai, eq_self, forall_const, Nat.reduceLT, Nat.reduceEqDiff, Nat.reduceSub, Nat.reduceMul, Nat.reduceMod, Nat.reduceDiv, Nat.reducePow, UInt8.reduceToNat, Int.reduceEq, Int.reduceLT, Int.reduceLE, ↓reduceIte, Nat.reduceAdd, Int.reduceToNat, reduceCtorEq, Nat.reduceLeDiff, ↓Ar]
 refine BQ (Afm (p := p) hat hlen hid hgo (fun x hx T K hK => ?_) fun T0 => ?_)
 ·have := hp x hx cs0 T K
  rw [SQ hid] at this
  exact this hK
 by_cases hany : ids.any p = true
 case neg =>
  have hf := XI hany
  rw [if_neg hany]
  simp -dsimp (disch := first | assumption | omega | (simp only [Ad]; done) | (simp only [Ad]; omega)) only [↓Ah, Ae, Ag, Ai, eq_self, forall_const, Nat.reduceLT, Nat.reduceEqDiff, Nat.reduceSub, Nat.reduceMul, Nat.reduceMod, Nat.reduceDiv, Nat.reducePow, UInt8.reduceToNat, Int.reduceEq, Int.reduceLT, Int.reduceLE, ↓reduceIte, Nat.reduceAdd, Int.reduceToNat, reduceCtorEq, Nat.reduceLeDiff, ↓Ar]
  have := hK cs0 T0 rfl (by rw [hf, hcs])
  rwa [hf, SQ hid] at this
 obtain ⟨hf1, hf2⟩ := Acd hany
 rw [if_pos hany]
 generalize ids.findIdx p = i0 at *
 simp -dsimp (disch := first | assumption | omega | (simp only [Ad]; done) | (simp only [Ad]; omega)) only [↓Ah, Ae, Ag, Ai, eq_self, forall_const, Nat.reduceLT, Nat.reduceEqDiff, Nat.reduceSub, Nat.reduceMul, Nat.reduceMod, Nat.reduceDiv, Nat.reducePow, UInt8.reduceToNat, Int.reduceEq, Int.reduceLT, Int.reduceLE, ↓reduceIte, Nat.reduceAdd, Int.reduceToNat, reduceCtorEq, Nat.reduceLeDiff, ↓Ar]
 refine BN (fun q e H' => ∃ (j m : Nat) (cs : List TV) (T : List Ob), q = ids.length - j ∧ j ≤ ids.length ∧ m < j ∧ m = ((ids.take j).filter fun x => !p x).length ∧ cs.length = cs0.length ∧ cs.take m = ((ids.take j).filter fun x => !p x).map idT ∧ (∀ r, j ≤ r → cs[r]? = cs0[r]?) ∧ (∀ c ∈ cs, AC c = 20) ∧
  e = [(0, .os 20 id ver [] 0 ids.length cp), (1, .fn (.func g) a caps), (5, i64 (m : Int)), (6, i64 (j : Int))] ∧ H' = H.set id (.obj ver (.arr N 20 cs)) ++ T ∧ T0.length ≤ T.length) (ids.length - (i0 + 1)) ?_ ?_
 ·refine ⟨i0 + 1, i0, cs0, T0, by omega, by omega, by omega, ?_, rfl, ?_, fun r hr => rfl, hw0, rfl, by rw [SQ hid], Nat.le_refl _⟩
  ·rw [hf1, List.length_take]; omega
  ·rw [hf1, List.map_take, ← hcs, List.take_take, Nat.min_eq_left (by omega)]
 ·rintro q e H' ⟨j, m, cs, T, rfl, hj, hmj, hm, hcl2, hct, hco, hw, rfl, rfl, hT0⟩
  by_cases h : j < ids.length
  ·have hx : ids[j]? = some ids[j] := List.getElem?_eq_getElem h
   have hsucc := List.take_succ_eq_append_getElem h
   have hpx := hp ids[j] (List.getElem_mem h) cs
   generalize ids[j] = x at *
   have hg : cs[j]? = some (.arr 20 1 (x.map by8)) := by rw [hco j (Nat.le_refl _), hat _ _ hx, AP]
   rw [AP] at hpx
   simp -dsimp (disch := first | assumption | omega | (simp only [Ad]; done) | (simp only [Ad]; omega)) only [↓Ah, Ae, Ag, Ai, eq_self, forall_const, Nat.reduceLT, Nat.reduceEqDiff, Nat.reduceSub, Nat.reduceMul, Nat.reduceMod, Nat.reduceDiv, Nat.reducePow, UInt8.reduceToNat, Int.reduceEq, Int.reduceLT, Int.reduceLE, ↓reduceIte, Nat.reduceAdd, Int.reduceToNat, reduceCtorEq, Nat.reduceLeDiff, ↓Ar, hg, hgo]
   rw [List.append_assoc (H.set _ _) T]
   refine BQ (hpx _ _ fun T' => ?_)
   have hfil : ((ids.take (j + 1)).filter fun x => !p x) = ((ids.take j).filter fun x => !p x) ++ if p x then [] else [x] := by
    rw [hsucc, List.filter_append]
    cases hpx2 : p x <;> simp [hpx2]
   cases hpt : p x with
   | true =>
    rw [hpt] at hfil
    simp only [if_true, List.append_nil] at hfil
    simp -dsimp (disch := first | assumption | omega | (simp only [Ad]; done) | (simp only [Ad]; omega)) only [↓Ah, Ae, Ag, Ai, eq_self, forall_const, Nat.reduceLT, Nat.reduceEqDiff, Nat.reduceSub, Nat.reduceMul, Nat.reduceMod, Nat.reduceDiv, Nat.reducePow, UInt8.reduceToNat, Int.reduceEq, Int.reduceLT, Int.reduceLE, ↓reduceIte, Nat.reduceAdd, Int.reduceToNat, reduceCtorEq, Nat.reduceLeDiff, ↓Ar]
    exact AY (ids.length - (j + 1)) (by omega) (by simp; omega) ⟨j + 1, m, cs, _, rfl, by omega, by omega, by rw [hfil]; exact hm, hcl2, by rw [hfil]; exact hct, fun r hr => hco r (by omega), hw, by simp [forget, get], by rw [List.append_assoc], by simp; omega⟩
   | false =>
    rw [hpt] at hfil
    simp only [Bool.false_eq_true, if_false] at hfil
    obtain ⟨c, hcm, hcw⟩ : ∃ c, cs[m]? = some c ∧ AC c = 20 := ⟨cs[m], List.getElem?_eq_getElem (by omega), hw _ (List.getElem_mem _)⟩
    simp -dsimp (disch := first | assumption | omega | (simp only [Ad]; done) | (simp only [Ad]; omega)) only [↓Ah, Ae, Ag, Ai, eq_self, forall_const, Nat.reduceLT, Nat.reduceEqDiff, Nat.reduceSub, Nat.reduceMul, Nat.reduceMod, Nat.reduceDiv, Nat.reducePow, UInt8.reduceToNat, Int.reduceEq, Int.reduceLT, Int.reduceLE, ↓reduceIte, Nat.reduceAdd, Int.reduceToNat, reduceCtorEq, Nat.reduceLeDiff, ↓Ar, hcm, hcw]
    refine AY (ids.length - (j + 1)) (by omega) (by simp; omega) ⟨j + 1, m + 1, cs.set m (idT x), _, rfl, by omega, by omega, by rw [hfil, List.length_append, ← hm]; rfl, by simp [hcl2], ?_, fun r hr => by rw [List.getElem?_set_ne (by omega)]; exact hco r (by omega), fun c hc => (List.mem_or_eq_of_mem_set hc).elim (hw c) fun e => by rw [e]; exact Be, by simp [forget, get], by rw [AP, List.append_assoc], by simp; omega⟩
    rw [hfil, List.map_append, ← hct, List.map_cons, List.map_nil]
    exact Xr _ _ _ (by omega)
  ·have hj2 : j = ids.length := by omega
   subst hj2
   rw [List.take_length] at hm hct
   have hml : m ≤ cs.length := by omega
   simp -dsimp (disch := first | assumption | omega | (simp only [Ad]; done) | (simp only [Ad]; omega)) only [↓Ah, Ae, Ag, Ai, eq_self, forall_const, Nat.reduceLT, Nat.reduceEqDiff, Nat.reduceSub, Nat.reduceMul, Nat.reduceMod, Nat.reduceDiv, Nat.reducePow, UInt8.reduceToNat, Int.reduceEq, Int.reduceLT, Int.reduceLE, ↓reduceIte, Nat.reduceAdd, Int.reduceToNat, reduceCtorEq, Nat.reduceLeDiff, ↓Ar]
   subst hm
   refine hK _ _ ?_ ?_
   ·simp; omega
   ·rw [List.take_append_of_le_length (by simp; omega), List.take_take, Nat.min_self, hct]
end Go.Proofs.YtingoaihnlhiaaaDoor


namespace Go.Proofs.YtingoaihnlhiaaaDoor
open Go.RowKit
variable [Bc]
set_option linter.unusedSectionVars false
set_option linter.unusedVariables false
set_option linter.unusedSimpArgs false

theorem Ada {ids : List (List UInt8)} (hlen : ids.length ≤ 100000) {H : List Ob} {id ver N cp : Nat} {cs : List TV} (hid : H[id]? = some (.obj ver (.arr N 20 cs))) (hcs : cs.take ids.length = ids.map idT) (hcl : ids.length ≤ cs.length) {K : TV → List Ob → Prop} (h0 : ids = [] → K (.val (.slice none 0 0)) H) (h1 : K (.os 20 H.length 1 [] 0 ids.length ids.length) (H ++ [.obj 1 (.arr ids.length 20 (ids.map idT))])) :
  Aq Tryd.prog 38 [.os 20 id ver [] 0 ids.length cp] H K := by
 have h3 := Ap hid
 refine Cc (by simp) ?_
 by_cases hn : ids = []
 ·subst hn
  simp -dsimp (disch := first | assumption | omega | (simp only [Ad]; done) | (simp only [Ad]; omega)) only [↓Ah, Ae, Ag, Ai, eq_self, forall_const, Nat.reduceLT, Nat.reduceEqDiff, Nat.reduceSub, Nat.reduceMul, Nat.reduceMod, Nat.reduceDiv, Nat.reducePow, UInt8.reduceToNat, Int.reduceEq, Int.reduceLT, Int.reduceLE, ↓reduceIte, Nat.reduceAdd, Int.reduceToNat, reduceCtorEq, Nat.reduceLeDiff, ↓AA, hid]
  refine ZJ ?_ ?_
  ·simp -dsimp (disch := first | assumption | omega | (simp only [Ad]; done) | (simp only [Ad]; omega)) only [↓Ah, Ae, Ag, Ai, eq_self, forall_const, Nat.reduceLT, Nat.reduceEqDiff, Nat.reduceSub, Nat.reduceMul, Nat.reduceMod, Nat.reduceDiv, Nat.reducePow, UInt8.reduceToNat, Int.reduceEq, Int.reduceLT, Int.reduceLE, ↓reduceIte, Nat.reduceAdd, Int.reduceToNat, reduceCtorEq, Nat.reduceLeDiff, ↓AA, hid]
   exact h0 rfl
  ·simp -dsimp (disch := first | assumption | omega | (simp only [Ad]; done) | (simp only [Ad]; omega)) only [↓Ah, Ae, Ag, Ai, eq_self, forall_const, Nat.reduceLT, Nat.reduceEqDiff, Nat.reduceSub, Nat.reduceMul, Nat.reduceMod, Nat.reduceDiv, Nat.reducePow, UInt8.reduceToNat, Int.reduceEq, Int.reduceLT, Int.reduceLE, ↓reduceIte, Nat.reduceAdd, Int.reduceToNat, reduceCtorEq, Nat.reduceLeDiff, ↓AA, hid]
   simpa using h1
 ·have hn0 : ids.length ≠ 0 := fun e => hn (List.length_eq_zero_iff.1 e)
  simp -dsimp (disch := first | assumption | omega | (simp only [Ad]; done) | (simp only [Ad]; omega)) only [↓Ah, Ae, Ag, Ai, eq_self, forall_const, Nat.reduceLT, Nat.reduceEqDiff, Nat.reduceSub, Nat.reduceMul, Nat.reduceMod, Nat.reduceDiv, Nat.reducePow, UInt8.reduceToNat, Int.reduceEq, Int.reduceLT, Int.reduceLE, ↓reduceIte, Nat.reduceAdd, Int.reduceToNat, reduceCtorEq, Nat.reduceLeDiff, ↓AA, hid]
  simpa [hcs] using h1
theorem AmB {l : List Nd} (hok : GOk l) {D seen : List (List UInt8)} (hD : ∀ x ∈ D, x ∈ AL l) (hs : ∀ x, x ∈ seen ↔ Rc l (D.flatMap (pOf l)) x) : (D.filter fun x => !seen.contains x) = VP l D := by
 refine List.filter_congr fun x hx => ?_
 congr 1
 by_cases h : x ∈ seen
 ·rw [Ao9 (p := AeH l D x) ((Ab5 hok hD hx).1 ((hs x).1 h))]; simpa using h
 ·rw [Aow (p := AeH l D x) fun k => h ((hs x).2 ((Ab5 hok hD hx).2 k))]; simpa using h
theorem Adx {l : List Nd} (hok : GOk l) (hl : l.length ≤ 100) (hp : ∀ n ∈ l, n.ps.length ≤ 1000) {D : List (List UInt8)} (hDl : D.length ≤ 100) (hD : ∀ x ∈ D, x ∈ AL l) {H : List Ob} {gi mi id ver N cp : Nat} {cs : List TV} (hg : H[gi]? = some (.obj 0 (.agg [.mp mi 0, .val (.map none)]))) (hm : H[mi]? = some (.mpo (.arr 20) (AZ l)))
  (hid : H[id]? = some (.obj ver (.arr N 20 cs))) (hcs : cs.take D.length = D.map idT) (hcl : D.length ≤ cs.length) (hcp : D.length ≤ cp) (hw : ∀ c ∈ cs, AC c = 20) {K : TV → List Ob → Prop}
  (h1 : ∀ cs' H', H'[id]? = some (.obj ver (.arr N 20 cs')) → cs'.take (VP l D).length = (VP l D).map idT → (VP l D).length ≤ cs'.length → K (.os 20 id ver [] 0 (VP l D).length cp) H') :
  vwp Tryd.prog Cf (Yc Eo K) [(0, .op gi 0 []), (1, .os 20 id ver [] 0 D.length cp)] H := by
 have h2 := Ap hg
 have h3 := Ap hm
 have h4 := Ap hid
 have hat : ∀ (i : Nat) x, D[i]? = some x → cs[i]? = some (idT x) := by
  intro i x hx
  have hi := Ap hx
  have h1 : (cs.take D.length)[i]? = some (idT x) := by rw [hcs, List.getElem?_map, hx]; rfl
  rwa [List.getElem?_take, if_pos hi] at h1
 have hfl : ∀ i, ((D.take i).flatMap (pOf l)).length ≤ 1000 * i := by
  intro i
  have key : ∀ m : List (List UInt8), (∀ x ∈ m, x ∈ AL l) → (m.flatMap (pOf l)).length ≤ 1000 * m.length := by
   intro m
   induction m with
   | nil => simp
   | cons a m ih =>
    intro h
    obtain ⟨n, hn, rfl⟩ := List.mem_map.1 (h a (by simp))
    have h1 := hp n hn
    have h2 := ih fun x hx => h x (by simp [hx])
    rw [List.flatMap_cons, List.length_append, List.length_cons, Xm hok.1.nodup hn]; omega
  have h1 := key (D.take i) fun x hx => hD x (List.mem_of_mem_take hx)
  have h2 : (D.take i).length ≤ i := by rw [List.length_take]; omega
  omega
 simp -dsimp (disch := first | assumption | omega | (simp only [Ad]; done) | (simp only [Ad]; omega)) only [↓Ah, Ae, Ag, Ai, eq_self, forall_const, Nat.reduceLT, Nat.reduceEqDiff, Nat.reduceSub, Nat.reduceMul, Nat.reduceMod, Nat.reduceDiv, Nat.reducePow, UInt8.reduceToNat, Int.reduceEq, Int.reduceLT, Int.reduceLE, ↓reduceIte, Nat.reduceAdd, Int.reduceToNat, reduceCtorEq, Nat.reduceLeDiff, ↓AV]
 refine BN (fun q e H' => ∃ (i v cp2 : Nat) (ps : List (List UInt8)) (T : List Ob), q = D.length - i ∧ i ≤ D.length ∧ ps = (D.take i).flatMap (pOf l) ∧ ps.length ≤ cp2 ∧ e = [(0, .op gi 0 []), (1, .os 20 id ver [] 0 D.length cp), (5, .os 20 H.length v [] 0 ps.length cp2), (15, .os 20 id ver [] 0 D.length cp), (16, i64 (D.length : Int)), (17, i64 (i : Int))] ∧
  H' = H ++ [.obj v (.arr ps.length 20 (ps.map idT))] ++ T) D.length ?_ ?_
 ·exact ⟨0, 0, 0, [], [], by simp, by simp, by simp, by simp, by simp [forget, get], by simp⟩
 ·rintro q e H' ⟨i, v, cp2, ps, T, rfl, hi, hps, hcp2, rfl, rfl⟩
  have hpl := hfl i
  rw [← hps] at hpl
  by_cases h : i < D.length
  ·have hx : D[i]? = some D[i] := List.getElem?_eq_getElem h
   have hsucc := List.take_succ_eq_append_getElem h
   have hxm := hD _ (List.getElem_mem h)
   generalize D[i] = x at *
   have hgx := hat _ _ hx
   rw [AP] at hgx
   obtain ⟨n, hn, rfl⟩ := List.mem_map.1 hxm
   have hlook : GL n.id (AZ l) = some (ndT n) := EY hok.1.nodup hn
   have hpn := hp n hn
   have hpo : pOf l n.id = n.ps := Xm hok.1.nodup hn
   have htk : (ps.map idT).take ps.length = ps.map idT := EX rfl
   simp -dsimp (disch := first | assumption | omega | (simp only [Ad]; done) | (simp only [Ad]; omega)) only [↓Ah, Ae, Ag, Ai, eq_self, forall_const, Nat.reduceLT, Nat.reduceEqDiff, Nat.reduceSub, Nat.reduceMul, Nat.reduceMod, Nat.reduceDiv, Nat.reducePow, UInt8.reduceToNat, Int.reduceEq, Int.reduceLT, Int.reduceLE, ↓reduceIte, Nat.reduceAdd, Int.reduceToNat, reduceCtorEq, Nat.reduceLeDiff, ↓AV, hid, hgx, hg, hm, hlook, Bf, htk]
   exact AY (D.length - (i + 1)) (by omega) (by simp) ⟨i + 1, v + 1, _, ps ++ n.ps, _, rfl, by omega, by rw [hsucc, List.flatMap_append, ← hps]; simp [hpo], Nat.le_refl _, by simp [forget, get], by simp; rfl⟩
  ·have hi2 : i = D.length := by omega
   subst hi2
   rw [List.take_length] at hps
   simp -dsimp (disch := first | assumption | omega | (simp only [Ad]; done) | (simp only [Ad]; omega)) only [↓Ah, Ae, Ag, Ai, eq_self, forall_const, Nat.reduceLT, Nat.reduceEqDiff, Nat.reduceSub, Nat.reduceMul, Nat.reduceMod, Nat.reduceDiv, Nat.reducePow, UInt8.reduceToNat, Int.reduceEq, Int.reduceLT, Int.reduceLE, ↓reduceIte, Nat.reduceAdd, Int.reduceToNat, reduceCtorEq, Nat.reduceLeDiff, ↓AV]
   have hpin : ∀ x ∈ ps, x ∈ AL l := by
    rw [hps]; intro x hx
    obtain ⟨y, hy, hxy⟩ := List.mem_flatMap.1 hx
    exact Rc.there hok.1 hD (.step (.base hy) hxy)
   refine BQ (UU hok (by omega) hp (S := ps) (by omega) hpin (gi := gi) (mi := mi) (by rw [List.append_assoc, A7 h2]; exact hg) (by rw [List.append_assoc, A7 h3]; exact hm) rfl (fun K k0 k1 => Ada (ids := ps) (N := ps.length) (cs := ps.map idT) (by omega) (by rw [List.append_assoc, List.append_assoc, Ro rfl]; rfl) (EX rfl) (by simp) k0 k1) (fun seen T' hnd hmem => ?_))
   simp -dsimp (disch := first | assumption | omega | (simp only [Ad]; done) | (simp only [Ad]; omega)) only [↓Ah, Ae, Ag, Ai, eq_self, forall_const, Nat.reduceLT, Nat.reduceEqDiff, Nat.reduceSub, Nat.reduceMul, Nat.reduceMod, Nat.reduceDiv, Nat.reducePow, UInt8.reduceToNat, Int.reduceEq, Int.reduceLT, Int.reduceLE, ↓reduceIte, Nat.reduceAdd, Int.reduceToNat, reduceCtorEq, Nat.reduceLeDiff, ↓AV]
   rw [hps] at hmem
   have hb := AmB hok hD hmem
   refine BQ (AdH (ids := D) (p := fun x => seen.contains x) hcs hcl hw hcp (by omega) (by rw [List.append_assoc, List.append_assoc, A7 h4]; exact hid) (by simp [Oh, BP]) (by kernel_rfl) (fun x hx cs T2 K hK => ?_) fun cs' T2 e1 e2 => ?_)
   ·refine AqR (es := Ko seen) ?_ VT x fun T3 => ?_
    ·have e : (H ++ [Ob.obj v (.arr ps.length 20 (ps.map idT))] ++ T).length = H.length + 1 + T.length := by simp; omega
     rw [A7 (by simp; omega), List.getElem?_set_ne (by simp; omega), ← e, List.getElem?_append_right (Nat.le_refl _), Nat.sub_self]
     rfl
    ·rw [Ot]
     exact hK T3
   ·rw [hb] at e2 ⊢
    simp -dsimp (disch := first | assumption | omega | (simp only [Ad]; done) | (simp only [Ad]; omega)) only [↓Ah, Ae, Ag, Ai, eq_self, forall_const, Nat.reduceLT, Nat.reduceEqDiff, Nat.reduceSub, Nat.reduceMul, Nat.reduceMod, Nat.reduceDiv, Nat.reducePow, UInt8.reduceToNat, Int.reduceEq, Int.reduceLT, Int.reduceLE, ↓reduceIte, Nat.reduceAdd, Int.reduceToNat, reduceCtorEq, Nat.reduceLeDiff, ↓AV]
    refine h1 cs' _ ?_ e2 ?_
    ·simp only [List.append_assoc]
     rw [A7 (by simp; omega)]
     exact List.getElem?_set_self h4
    ·rw [e1]
     exact Nat.le_trans (List.length_filter_le _ _) hcl
theorem Ase {H : List Ob} {K : TV → List Ob → Prop} (hK : K (.tup []) H) : Aq Tryd.prog 45 [.val (.slice none 0 0), .val (.func (.func 46) #[] #[])] H K := by
 intro β F w vs hs hv
 obtain ⟨u, us, rfl, h2, h3⟩ := Bd.cons.1 hv
 obtain ⟨u2, us2, rfl, h4, h5⟩ := Bd.cons.1 h3
 rw [Bd.nil] at h5; subst h5
 have e1 : u = .slice none 0 0 := Rep.val.1 (Or.inl h2)
 have e2 : u2 = .func (.func 46) #[] #[] := Rep.val.1 (Or.inl h4)
 subst e1; subst e2
 refine (AnyF.slices_SortFunc_none Tryd.sortL none 0 (.func (.func 46) #[] #[]) w).mono ?_
 rintro _ _ ⟨rfl, rfl⟩
 exact ⟨_, _, β, _, F, rfl, hK, hs, AO.refl _ _, .inr ⟨[], [], rfl, rfl, Bd.nil.2 rfl⟩⟩
theorem Air {H : List Ob} {K : TV → List Ob → Prop} (hK : K (.val (.slice none 0 0)) H) : Aq Tryd.prog 48 [.val (.slice none 0 0)] H K := by
 refine Es (by simp) ?_
 simp -dsimp (disch := first | assumption | omega | (simp only [Ad]; done) | (simp only [Ad]; omega)) only [↓Ah, Ae, Ag, Ai, eq_self, forall_const, Nat.reduceLT, Nat.reduceEqDiff, Nat.reduceSub, Nat.reduceMul, Nat.reduceMod, Nat.reduceDiv, Nat.reducePow, UInt8.reduceToNat, Int.reduceEq, Int.reduceLT, Int.reduceLE, ↓reduceIte, Nat.reduceAdd, Int.reduceToNat, reduceCtorEq, Nat.reduceLeDiff, ↓Az]
 exact hK
theorem Ae6 {H : List Ob} {f : TV} (hf : BP f = false) {K : TV → List Ob → Prop} (hK : K (i64 (-1)) H) : Aq Tryd.prog 58 [.val (.slice none 0 0), f] H K := by
 refine BG (by simp) ?_
 simp -dsimp (disch := first | assumption | omega | (simp only [Ad]; done) | (simp only [Ad]; omega)) only [↓Ah, Ae, Ag, Ai, eq_self, forall_const, Nat.reduceLT, Nat.reduceEqDiff, Nat.reduceSub, Nat.reduceMul, Nat.reduceMod, Nat.reduceDiv, Nat.reducePow, UInt8.reduceToNat, Int.reduceEq, Int.reduceLT, Int.reduceLE, ↓reduceIte, Nat.reduceAdd, Int.reduceToNat, reduceCtorEq, Nat.reduceLeDiff, ↓Am]
 refine BN (fun q e H' => e = [(0, .val (.slice none 0 0)), (1, f), (7, i64 ((0 : Nat) : Int)), (8, i64 ((0 : Nat) : Int))] ∧ H = H') 0 ?_ ?_
 ·exact ⟨rfl, rfl⟩
 ·rintro q e H' ⟨rfl, rfl⟩
  simp -dsimp (disch := first | assumption | omega | (simp only [Ad]; done) | (simp only [Ad]; omega)) only [↓Ah, Ae, Ag, Ai, eq_self, forall_const, Nat.reduceLT, Nat.reduceEqDiff, Nat.reduceSub, Nat.reduceMul, Nat.reduceMod, Nat.reduceDiv, Nat.reducePow, UInt8.reduceToNat, Int.reduceEq, Int.reduceLT, Int.reduceLE, ↓reduceIte, Nat.reduceAdd, Int.reduceToNat, reduceCtorEq, Nat.reduceLeDiff, ↓Am]
  exact hK
theorem AcZ {H : List Ob} {f : TV} (hf : BP f = false) {K : TV → List Ob → Prop} (hK : K (.val (.slice none 0 0)) H) : Aq Tryd.prog 49 [.val (.slice none 0 0), f] H K := by
 refine Dt (by simp) ?_
 simp -dsimp (disch := first | assumption | omega | (simp only [Ad]; done) | (simp only [Ad]; omega)) only [↓Ah, Ae, Ag, Ai, eq_self, forall_const, Nat.reduceLT, Nat.reduceEqDiff, Nat.reduceSub, Nat.reduceMul, Nat.reduceMod, Nat.reduceDiv, Nat.reducePow, UInt8.reduceToNat, Int.reduceEq, Int.reduceLT, Int.reduceLE, ↓reduceIte, Nat.reduceAdd, Int.reduceToNat, reduceCtorEq, Nat.reduceLeDiff, ↓Ar, hf]
 refine BQ (Ae6 hf ?_)
 simp -dsimp (disch := first | assumption | omega | (simp only [Ad]; done) | (simp only [Ad]; omega)) only [↓Ah, Ae, Ag, Ai, eq_self, forall_const, Nat.reduceLT, Nat.reduceEqDiff, Nat.reduceSub, Nat.reduceMul, Nat.reduceMod, Nat.reduceDiv, Nat.reducePow, UInt8.reduceToNat, Int.reduceEq, Int.reduceLT, Int.reduceLE, ↓reduceIte, Nat.reduceAdd, Int.reduceToNat, reduceCtorEq, Nat.reduceLeDiff, ↓Ar, hf]
 exact hK
theorem Ab0 {l : List Nd} (hok : GOk l) (hl : l.length ≤ 100) (hp : ∀ n ∈ l, n.ps.length ≤ 1000) {H : List Ob} {gi mi : Nat} (hg : H[gi]? = some (.obj 0 (.agg [.mp mi 0, .val (.map none)]))) (hm : H[mi]? = some (.mpo (.arr 20) (AZ l))) {K : TV → List Ob → Prop}
  (h1 : ∀ H', K (.val (.slice none 0 0)) H') : vwp Tryd.prog Cf (Yc Eo K) [(0, .op gi 0 []), (1, .val (.slice none 0 0))] H := by
 have h2 := Ap hg
 have h3 := Ap hm
 simp -dsimp (disch := first | assumption | omega | (simp only [Ad]; done) | (simp only [Ad]; omega)) only [↓Ah, Ae, Ag, Ai, eq_self, forall_const, Nat.reduceLT, Nat.reduceEqDiff, Nat.reduceSub, Nat.reduceMul, Nat.reduceMod, Nat.reduceDiv, Nat.reducePow, UInt8.reduceToNat, Int.reduceEq, Int.reduceLT, Int.reduceLE, ↓reduceIte, Nat.reduceAdd, Int.reduceToNat, reduceCtorEq, Nat.reduceLeDiff, ↓AV]
 refine BN (fun q e H' => e = [(0, .op gi 0 []), (1, .val (.slice none 0 0)), (5, .os 20 H.length 0 [] 0 0 0), (15, .val (.slice none 0 0)), (16, i64 ((0 : Nat) : Int)), (17, i64 ((0 : Nat) : Int))] ∧ H' = H ++ [.obj 0 (.arr 0 20 [])]) 0 ?_ ?_
 ·exact ⟨by simp [forget, get], rfl⟩
 ·rintro q e H' ⟨rfl, rfl⟩
  simp -dsimp (disch := first | assumption | omega | (simp only [Ad]; done) | (simp only [Ad]; omega)) only [↓Ah, Ae, Ag, Ai, eq_self, forall_const, Nat.reduceLT, Nat.reduceEqDiff, Nat.reduceSub, Nat.reduceMul, Nat.reduceMod, Nat.reduceDiv, Nat.reducePow, UInt8.reduceToNat, Int.reduceEq, Int.reduceLT, Int.reduceLE, ↓reduceIte, Nat.reduceAdd, Int.reduceToNat, reduceCtorEq, Nat.reduceLeDiff, ↓AV]
  refine BQ (UU hok (by omega) hp (S := []) (by simp) (by simp) (gi := gi) (mi := mi) (by rw [A7 h2]; exact hg) (by rw [A7 h3]; exact hm) rfl (fun K k0 k1 => Ada (ids := []) (N := 0) (cs := []) (by simp) (by rw [List.append_assoc, Ro rfl]; rfl) rfl (by simp) k0 k1) (fun seen T' hnd hmem => ?_))
  simp -dsimp (disch := first | assumption | omega | (simp only [Ad]; done) | (simp only [Ad]; omega)) only [↓Ah, Ae, Ag, Ai, eq_self, forall_const, Nat.reduceLT, Nat.reduceEqDiff, Nat.reduceSub, Nat.reduceMul, Nat.reduceMod, Nat.reduceDiv, Nat.reducePow, UInt8.reduceToNat, Int.reduceEq, Int.reduceLT, Int.reduceLE, ↓reduceIte, Nat.reduceAdd, Int.reduceToNat, reduceCtorEq, Nat.reduceLeDiff, ↓AV]
  refine BQ (AcZ rfl ?_)
  simp -dsimp (disch := first | assumption | omega | (simp only [Ad]; done) | (simp only [Ad]; omega)) only [↓Ah, Ae, Ag, Ai, eq_self, forall_const, Nat.reduceLT, Nat.reduceEqDiff, Nat.reduceSub, Nat.reduceMul, Nat.reduceMod, Nat.reduceDiv, Nat.reducePow, UInt8.reduceToNat, Int.reduceEq, Int.reduceLT, Int.reduceLE, ↓reduceIte, Nat.reduceAdd, Int.reduceToNat, reduceCtorEq, Nat.reduceLeDiff, ↓AV]
  exact h1 _
theorem Ahk {l : List Nd} (hok : GOk l) (hl : l.length ≤ 100) (hp : ∀ n ∈ l, n.ps.length ≤ 1000) {S : List (List UInt8)} (hlen : S.length ≤ 100000) (hS : ∀ x ∈ S, x ∈ AL l) {H : List Ob} {gi mi : Nat} (hg : H[gi]? = some (.obj 0 (.agg [.mp mi 0, .val (.map none)]))) (hm : H[mi]? = some (.mpo (.arr 20) (AZ l))) {A : TV} (hA1 : BP A = false)
  (hA : ∀ K : TV → List Ob → Prop, (S = [] → K (.val (.slice none 0 0)) H) → K (.os 20 H.length 1 [] 0 S.length S.length) (H ++ [.obj 1 (.arr S.length 20 (S.map idT))]) → Aq Tryd.prog 38 [A] H K) {K : TV → List Ob → Prop}
  (h0 : S = [] → ∀ H', K (.val (.slice none 0 0)) H') (h1 : ∀ id N cp cs H', H'[id]? = some (.obj 1 (.arr N 20 cs)) → cs.take (VP l (dd (IJ S))).length = (VP l (dd (IJ S))).map idT → (VP l (dd (IJ S))).length ≤ cs.length → K (.os 20 id 1 [] 0 (VP l (dd (IJ S))).length cp) H') : Aq Tryd.prog 33 [.op gi 0 [], A] H K := by
 have h2 := Ap hg
 have h3 := Ap hm
 refine Tv (by simp) ?_
 simp -dsimp (disch := first | assumption | omega | (simp only [Ad]; done) | (simp only [Ad]; omega)) only [↓Ah, Ae, Ag, Ai, eq_self, forall_const, Nat.reduceLT, Nat.reduceEqDiff, Nat.reduceSub, Nat.reduceMul, Nat.reduceMod, Nat.reduceDiv, Nat.reducePow, UInt8.reduceToNat, Int.reduceEq, Int.reduceLT, Int.reduceLE, ↓reduceIte, Nat.reduceAdd, Int.reduceToNat, reduceCtorEq, Nat.reduceLeDiff, ↓AV, hA1]
 refine BQ (hA _ (fun hS0 => ?_) ?_)
 ·subst hS0
  simp -dsimp (disch := first | assumption | omega | (simp only [Ad]; done) | (simp only [Ad]; omega)) only [↓Ah, Ae, Ag, Ai, eq_self, forall_const, Nat.reduceLT, Nat.reduceEqDiff, Nat.reduceSub, Nat.reduceMul, Nat.reduceMod, Nat.reduceDiv, Nat.reducePow, UInt8.reduceToNat, Int.reduceEq, Int.reduceLT, Int.reduceLE, ↓reduceIte, Nat.reduceAdd, Int.reduceToNat, reduceCtorEq, Nat.reduceLeDiff, ↓DD, ↓Ec]
  refine BQ (Ase ?_)
  simp -dsimp (disch := first | assumption | omega | (simp only [Ad]; done) | (simp only [Ad]; omega)) only [↓Ah, Ae, Ag, Ai, eq_self, forall_const, Nat.reduceLT, Nat.reduceEqDiff, Nat.reduceSub, Nat.reduceMul, Nat.reduceMod, Nat.reduceDiv, Nat.reducePow, UInt8.reduceToNat, Int.reduceEq, Int.reduceLT, Int.reduceLE, ↓reduceIte, Nat.reduceAdd, Int.reduceToNat, reduceCtorEq, Nat.reduceLeDiff, ↓Eb]
  refine BQ (Air ?_)
  simp -dsimp (disch := first | assumption | omega | (simp only [Ad]; done) | (simp only [Ad]; omega)) only [↓Ah, Ae, Ag, Ai, eq_self, forall_const, Nat.reduceLT, Nat.reduceEqDiff, Nat.reduceSub, Nat.reduceMul, Nat.reduceMod, Nat.reduceDiv, Nat.reducePow, UInt8.reduceToNat, Int.reduceEq, Int.reduceLT, Int.reduceLE, ↓reduceIte, Nat.reduceAdd, Int.reduceToNat, reduceCtorEq, Nat.reduceLeDiff]
  exact Ab0 hok hl hp hg hm (h0 rfl)
 ·simp -dsimp (disch := first | assumption | omega | (simp only [Ad]; done) | (simp only [Ad]; omega)) only [↓Ah, Ae, Ag, Ai, eq_self, forall_const, Nat.reduceLT, Nat.reduceEqDiff, Nat.reduceSub, Nat.reduceMul, Nat.reduceMod, Nat.reduceDiv, Nat.reducePow, UInt8.reduceToNat, Int.reduceEq, Int.reduceLT, Int.reduceLE, ↓reduceIte, Nat.reduceAdd, Int.reduceToNat, reduceCtorEq, Nat.reduceLeDiff, ↓DD, ↓Ec]
  refine BQ (ArY (id := H.length) (ver := 1) (N := S.length) (by rw [Ro rfl]; rfl) hlen ?_)
  rw [← AcC S]
  simp -dsimp (disch := first | assumption | omega | (simp only [Ad]; done) | (simp only [Ad]; omega)) only [↓Ah, Ae, Ag, Ai, eq_self, forall_const, Nat.reduceLT, Nat.reduceEqDiff, Nat.reduceSub, Nat.reduceMul, Nat.reduceMod, Nat.reduceDiv, Nat.reducePow, UInt8.reduceToNat, Int.reduceEq, Int.reduceLT, Int.reduceLE, ↓reduceIte, Nat.reduceAdd, Int.reduceToNat, reduceCtorEq, Nat.reduceLeDiff, ↓Eb]
  refine BQ (AkJ (d := IJ S) (by rw [AcC]; exact hlen) (Nat.le_refl _) (by rw [Ro rfl]; rfl) fun cs e1 e2 e3 => ?_)
  simp -dsimp (disch := first | assumption | omega | (simp only [Ad]; done) | (simp only [Ad]; omega)) only [↓Ah, Ae, Ag, Ai, eq_self, forall_const, Nat.reduceLT, Nat.reduceEqDiff, Nat.reduceSub, Nat.reduceMul, Nat.reduceMod, Nat.reduceDiv, Nat.reducePow, UInt8.reduceToNat, Int.reduceEq, Int.reduceLT, Int.reduceLE, ↓reduceIte, Nat.reduceAdd, Int.reduceToNat, reduceCtorEq, Nat.reduceLeDiff]
  have hD : ∀ x ∈ dd (IJ S), x ∈ AL l := fun x hx => hS x ((ZN S x).1 ((Aau x).1 hx))
  have hDl : (dd (IJ S)).length ≤ l.length := by
   have := Gf (Aia (XK S)).nodup hD
   simpa [AL] using this
  have hDS : (dd (IJ S)).length ≤ cs.length := by
   have := congrArg List.length e2
   rw [List.length_take, List.length_map] at this
   omega
  exact Adx hok hl hp (by omega) hD (by rw [A7 h2]; exact hg) (by rw [A7 h3]; exact hm) (by rw [Ro rfl]; rfl) e2 hDS (by omega) e3 fun cs' H' k1 k2 k3 => h1 _ _ _ _ _ k1 k2 k3
end Go.Proofs.YtingoaihnlhiaaaDoor


namespace Go.Proofs.YtingoaihnlhiaaaDoor
open Go.RowKit
variable [Bc]
set_option linter.unusedSectionVars false
set_option linter.unusedVariables false
set_option linter.unusedSimpArgs false

/-- A slice of ids, maybe no slice where there are none. -/
def Ids (s : List (List UInt8)) (x : TV) : Prop := x = .sl 20 (s.map idT) ∨ (s = [] ∧ x = .val (.slice none 0 0))
theorem Ids.conv {s : List (List UInt8)} {x y : TV} (h : Ids s x) (c : Ctx) (w : World) (v : Value) (hv : Rep c w (.tup [x, y]) v) : Rep c w (.tup [.sl 20 (s.map idT), y]) v := by
 rcases h with rfl | ⟨rfl, rfl⟩
 ·exact hv
 ·exact XN.tup (.cons Aem XN.refl) c w v hv
theorem AqQ (l : List Nd) (hl : l.length ≤ 100) (hp : ∀ n ∈ l, n.ps.length ≤ 1000) (s : List (List UInt8)) (hlen : s.length ≤ 100000) : Gh Tryd.prog 17 [.sl 22 (l.map ndT), .sl 20 (s.map idT)] (fun r =>
  (Abd l s → ∃ x, Ids (VP l (dd (IJ s))) x ∧ r = .tup [x, .val .nilIface]) ∧ (¬ Abd l s → r = .tup [.val (.slice none 0 0), .ifc 36 (i64 ((80 : Nat) : Int))])) := by
 refine Aq.toPureV (Zy (by simp) ?_)
 simp -dsimp (disch := first | assumption | omega | (simp only [Ad]; done) | (simp only [Ad]; omega)) only [↓Ah, Ae, Ag, Ai, eq_self, forall_const, Nat.reduceLT, Nat.reduceEqDiff, Nat.reduceSub, Nat.reduceMul, Nat.reduceMod, Nat.reduceDiv, Nat.reducePow, UInt8.reduceToNat, Int.reduceEq, Int.reduceLT, Int.reduceLE, ↓reduceIte, Nat.reduceAdd, Int.reduceToNat, reduceCtorEq, Nat.reduceLeDiff, ↓FT]
 refine BQ (ofH l (by omega) hp s hlen (fun hok T => ?_) (fun hno g H' => ?_))
 ·simp -dsimp (disch := first | assumption | omega | (simp only [Ad]; done) | (simp only [Ad]; omega)) only [↓Ah, Ae, Ag, Ai, eq_self, forall_const, Nat.reduceLT, Nat.reduceEqDiff, Nat.reduceSub, Nat.reduceMul, Nat.reduceMod, Nat.reduceDiv, Nat.reducePow, UInt8.reduceToNat, Int.reduceEq, Int.reduceLT, Int.reduceLE, ↓reduceIte, Nat.reduceAdd, Int.reduceToNat, reduceCtorEq, Nat.reduceLeDiff, ↓FT]
  have hin : ∀ x ∈ s, x ∈ AL l := fun x hx => MR.1 (List.all_eq_true.1 hok.2 x hx)
  refine BQ (Ahk hok.1 hl hp hlen hin (gi := 1) (mi := 0) rfl rfl rfl (fun K k0 k1 => AdQ hlen k0 k1) (fun h0 H' => ?_) (fun id N cp cs H' e1 e2 e3 => ?_))
  ·simp -dsimp (disch := first | assumption | omega | (simp only [Ad]; done) | (simp only [Ad]; omega)) only [↓Ah, Ae, Ag, Ai, eq_self, forall_const, Nat.reduceLT, Nat.reduceEqDiff, Nat.reduceSub, Nat.reduceMul, Nat.reduceMod, Nat.reduceDiv, Nat.reducePow, UInt8.reduceToNat, Int.reduceEq, Int.reduceLT, Int.reduceLE, ↓reduceIte, Nat.reduceAdd, Int.reduceToNat, reduceCtorEq, Nat.reduceLeDiff, ↓FT]
   exact ⟨fun _ => ⟨_, .inr ⟨by subst h0; simp [IJ, dd, VP], rfl⟩, rfl⟩, fun h => absurd hok h⟩
  ·simp -dsimp (disch := first | assumption | omega | (simp only [Ad]; done) | (simp only [Ad]; omega)) only [↓Ah, Ae, Ag, Ai, eq_self, forall_const, Nat.reduceLT, Nat.reduceEqDiff, Nat.reduceSub, Nat.reduceMul, Nat.reduceMod, Nat.reduceDiv, Nat.reducePow, UInt8.reduceToNat, Int.reduceEq, Int.reduceLT, Int.reduceLE, ↓reduceIte, Nat.reduceAdd, Int.reduceToNat, reduceCtorEq, Nat.reduceLeDiff, ↓FT, e1, e2]
   exact ⟨fun _ => ⟨_, .inl rfl, rfl⟩, fun h => absurd hok h⟩
 ·simp -dsimp (disch := first | assumption | omega | (simp only [Ad]; done) | (simp only [Ad]; omega)) only [↓Ah, Ae, Ag, Ai, eq_self, forall_const, Nat.reduceLT, Nat.reduceEqDiff, Nat.reduceSub, Nat.reduceMul, Nat.reduceMod, Nat.reduceDiv, Nat.reducePow, UInt8.reduceToNat, Int.reduceEq, Int.reduceLT, Int.reduceLE, ↓reduceIte, Nat.reduceAdd, Int.reduceToNat, reduceCtorEq, Nat.reduceLeDiff, ↓FT]
  exact ⟨fun h => absurd h hno, fun _ => trivial⟩
theorem Aeq {n : Nat} {k : List UInt8} : kTV (.arr n) k = .arr n 1 (k.map by8) := by rw [kTV]
theorem Acb {es : List (List UInt8 × TV)} {z : Nat × List UInt8 × TV} : z ∈ Fp 0 es ↔ es[z.1]? = some z.2 := by
 constructor
 ·intro h
  obtain ⟨j, hj⟩ := List.getElem?_of_mem h
  rw [Yw] at hj
  obtain ⟨e, he, rfl⟩ := Option.map_eq_some_iff.1 hj
  simpa using he
 ·intro h
  refine List.mem_of_getElem? (i := z.1) ?_
  rw [Yw, h]
  simp
theorem AhD {X : List (List UInt8)} {z : Nat × List UInt8 × TV} (h : z ∈ Fp 0 (Ko X)) : X[z.1]? = some z.2.1 ∧ z.2.2 = .agg [] := by
 rw [Acb, Ko, List.getElem?_map] at h
 obtain ⟨k, hk, e⟩ := Option.map_eq_some_iff.1 h
 rw [hk, ← e]; exact ⟨rfl, rfl⟩
theorem Ae3 {l : List Nd} (hok : GOk l) (hl : l.length ≤ 100) (hp : ∀ n ∈ l, n.ps.length ≤ 1000) {X Y : List (List UInt8)} (hX : X.length ≤ 100) (hXl : ∀ x ∈ X, x ∈ AL l) {H : List Ob} {gi mi mx my : Nat} (hg : H[gi]? = some (.obj 0 (.agg [.mp mi 0, .val (.map none)]))) (hm : H[mi]? = some (.mpo (.arr 20) (AZ l)))
  (hx : H[mx]? = some (.mpo (.arr 20) (Ko X))) (hy : H[my]? = some (.mpo (.arr 20) (Ko Y))) {K : TV → List Ob → Prop}
  (h1 : ∀ H', (∀ z, ¬ (z ∈ X ∧ z ∈ Y)) → K (.tup [.val (.slice none 0 0), .val .nilIface]) H')
  (h2 : ∀ s id N cp cs H', (∀ z, z ∈ s ↔ z ∈ X ∧ z ∈ Y) → H'[id]? = some (.obj 1 (.arr N 20 cs)) → cs.take (VP l (dd (IJ s))).length = (VP l (dd (IJ s))).map idT → (VP l (dd (IJ s))).length ≤ cs.length → K (.tup [.os 20 id 1 [] 0 (VP l (dd (IJ s))).length cp, .val .nilIface]) H') :
  vwp Tryd.prog Kr (Yc Pv K) [(8, .op gi 0 []), (10, .mp mx 0), (11, .mp my 0)] H := by
 have k1 := Ap hg
 have k2 := Ap hm
 have k3 := Ap hx
 have k4 := Ap hy
 have hcl : (Ko X).length = X.length := by simp [Ko]
 simp -dsimp (disch := first | assumption | omega | (simp only [Ad]; done) | (simp only [Ad]; omega)) only [↓Ah, Ae, Ag, Ai, eq_self, forall_const, Nat.reduceLT, Nat.reduceEqDiff, Nat.reduceSub, Nat.reduceMul, Nat.reduceMod, Nat.reduceDiv, Nat.reducePow, UInt8.reduceToNat, Int.reduceEq, Int.reduceLT, Int.reduceLE, ↓reduceIte, Nat.reduceAdd, Int.reduceToNat, reduceCtorEq, Nat.reduceLeDiff, ↓Cm, hx, hcl]
 refine BN (fun q e H' => ∃ (sn : List Nat) (v cp : Nat) (out : List (List UInt8)) (T : List Ob), q = X.length - sn.length ∧ sn.Nodup ∧ (∀ s ∈ sn, s < X.length) ∧ (∀ z, z ∈ out ↔ z ∈ Y ∧ ∃ s ∈ sn, X[s]? = some z) ∧ out.length ≤ sn.length ∧ out.length ≤ cp ∧
  e = [(8, .op gi 0 []), (11, .mp my 0), (12, .os 20 (H.length + 1) v [] 0 out.length cp), (34, .op H.length 0 [])] ∧ H' = H ++ [.mit mx sn X.length, .obj v (.arr out.length 20 (out.map idT))] ++ T) X.length ?_ ?_
 ·exact ⟨[], 0, 0, [], [], by simp, by simp, by simp, by simp, by simp, by simp, by simp [forget, get], by simp⟩
 ·rintro q e H' ⟨sn, v, cp, out, T, rfl, hnd, hsn, hout, hol, hcp, rfl, rfl⟩
  have hsnl : sn.length ≤ X.length := by
   have := Gf (d := sn) (e := List.range X.length) hnd fun s hs => List.mem_range.2 (hsn s hs)
   simpa using this
  have e1 : (H ++ [Ob.mit mx sn X.length, .obj v (.arr out.length 20 (out.map idT))] ++ T)[H.length]? = some (.mit mx sn X.length) := by rw [List.append_assoc, Ro rfl]; rfl
  have e2 : (H ++ [Ob.mit mx sn X.length, .obj v (.arr out.length 20 (out.map idT))] ++ T)[mx]? = some (.mpo (.arr 20) (Ko X)) := by rw [List.append_assoc, A7 k3]; exact hx
  simp -dsimp (disch := first | assumption | omega | (simp only [Ad]; done) | (simp only [Ad]; omega)) only [↓Ah, Ae, Ag, Ai, eq_self, forall_const, Nat.reduceLT, Nat.reduceEqDiff, Nat.reduceSub, Nat.reduceMul, Nat.reduceMod, Nat.reduceDiv, Nat.reducePow, UInt8.reduceToNat, Int.reduceEq, Int.reduceLT, Int.reduceLE, ↓reduceIte, Nat.reduceAdd, Int.reduceToNat, reduceCtorEq, Nat.reduceLeDiff, ↓Cm, e1, e2, hcl]
  refine Ud rfl (fun z hz => ?_) (fun z hz hzn => ?_) (fun hall => ?_)
  ·have := (Ap (AhD hz).1); exact this
  ·obtain ⟨hzx, hzv⟩ := AhD hz
   have hent : Ae7 (mx, sn ++ [z.1], X.length) (.arr 20, Fp 0 (Ko X), X.length) = some (.tup [kTV (.arr 20) z.2.1, z.2.2]) := AaE (by rw [Oz]; exact List.nodup_range') hz
   rw [Aeq, hzv] at hent
   have hset : (H ++ [Ob.mit mx sn X.length, .obj v (.arr out.length 20 (out.map idT))] ++ T).set H.length (.mit mx (sn ++ [z.1]) X.length) = H ++ [Ob.mit mx (sn ++ [z.1]) X.length, .obj v (.arr out.length 20 (out.map idT))] ++ T := by simp
   rw [hset]
   have e3 : (H ++ [Ob.mit mx (sn ++ [z.1]) X.length, .obj v (.arr out.length 20 (out.map idT))] ++ T)[H.length]? = some (.mit mx (sn ++ [z.1]) X.length) := by rw [List.append_assoc, Ro rfl]; rfl
   have e4 : (H ++ [Ob.mit mx (sn ++ [z.1]) X.length, .obj v (.arr out.length 20 (out.map idT))] ++ T)[mx]? = some (.mpo (.arr 20) (Ko X)) := by rw [List.append_assoc, A7 k3]; exact hx
   simp -dsimp (disch := first | assumption | omega | (simp only [Ad]; done) | (simp only [Ad]; omega)) only [↓Ah, Ae, Ag, Ai, eq_self, forall_const, Nat.reduceLT, Nat.reduceEqDiff, Nat.reduceSub, Nat.reduceMul, Nat.reduceMod, Nat.reduceDiv, Nat.reducePow, UInt8.reduceToNat, Int.reduceEq, Int.reduceLT, Int.reduceLE, ↓reduceIte, Nat.reduceAdd, Int.reduceToNat, reduceCtorEq, Nat.reduceLeDiff, ↓Cm, e3, e4, hcl, hent]
   rw [← AP]
   refine BQ (AqR (es := Ko Y) (by rw [List.append_assoc, List.append_assoc, A7 k4]; exact hy) VT z.2.1 fun T' => ?_)
   rw [Ot]
   have hnd' : (sn ++ [z.1]).Nodup := by
    rw [List.nodup_append]
    exact ⟨hnd, by simp, fun a ha b hb e => by rw [List.mem_singleton] at hb; subst hb; subst e; exact hzn ha⟩
   have hsn' : ∀ s ∈ sn ++ [z.1], s < X.length := fun s hs => by
    rcases List.mem_append.1 hs with hs | hs
    ·exact hsn s hs
    ·rw [List.mem_singleton.1 hs]; exact Ap hzx
   have hle : (sn ++ [z.1]).length ≤ X.length := by
    have := Gf (d := sn ++ [z.1]) (e := List.range X.length) hnd' fun s hs => List.mem_range.2 (hsn' s hs)
    simpa using this
   rw [List.length_append, List.length_singleton] at hle
   by_cases hc : z.2.1 ∈ Y
   ·have hc' : Y.contains z.2.1 = true := by simpa using hc
    rw [hc']
    have htk : (out.map idT).take out.length = out.map idT := EX rfl
    simp -dsimp (disch := first | assumption | omega | (simp only [Ad]; done) | (simp only [Ad]; omega)) only [↓Ah, Ae, Ag, Ai, eq_self, forall_const, Nat.reduceLT, Nat.reduceEqDiff, Nat.reduceSub, Nat.reduceMul, Nat.reduceMod, Nat.reduceDiv, Nat.reducePow, UInt8.reduceToNat, Int.reduceEq, Int.reduceLT, Int.reduceLE, ↓reduceIte, Nat.reduceAdd, Int.reduceToNat, reduceCtorEq, Nat.reduceLeDiff, ↓Cm, PW, AP, htk, LP]
    refine AY (X.length - (sn.length + 1)) (by omega) (by simp; omega) ⟨sn ++ [z.1], v + 1, _, out ++ [z.2.1], _, by simp, hnd', hsn', fun y => ?_, by simp; omega, Nat.le_refl _, by simp [forget, get], by simp [AP]; rfl⟩
    rw [List.mem_append, List.mem_singleton, hout y]
    constructor
    ·rintro (⟨h1, s, h2, h3⟩ | rfl)
     ·exact ⟨h1, s, List.mem_append_left _ h2, h3⟩
     ·exact ⟨hc, z.1, by simp, hzx⟩
    ·rintro ⟨h1, s, h2, h3⟩
     rcases List.mem_append.1 h2 with h2 | h2
     ·exact .inl ⟨h1, s, h2, h3⟩
     ·rw [List.mem_singleton.1 h2, hzx] at h3; cases h3; exact .inr rfl
   ·have hc' : Y.contains z.2.1 = false := by simpa using hc
    rw [hc']
    simp -dsimp (disch := first | assumption | omega | (simp only [Ad]; done) | (simp only [Ad]; omega)) only [↓Ah, Ae, Ag, Ai, eq_self, forall_const, Nat.reduceLT, Nat.reduceEqDiff, Nat.reduceSub, Nat.reduceMul, Nat.reduceMod, Nat.reduceDiv, Nat.reducePow, UInt8.reduceToNat, Int.reduceEq, Int.reduceLT, Int.reduceLE, ↓reduceIte, Nat.reduceAdd, Int.reduceToNat, reduceCtorEq, Nat.reduceLeDiff, ↓Cm]
    refine AY (X.length - (sn.length + 1)) (by omega) (by simp; omega) ⟨sn ++ [z.1], v, cp, out, _, by simp, hnd', hsn', fun y => ?_, by simp; omega, hcp, by simp [forget, get], by simp; rfl⟩
    rw [hout y]
    constructor
    ·rintro ⟨h1, s, h2, h3⟩
     exact ⟨h1, s, List.mem_append_left _ h2, h3⟩
    ·rintro ⟨h1, s, h2, h3⟩
     rcases List.mem_append.1 h2 with h2 | h2
     ·exact ⟨h1, s, h2, h3⟩
     ·rw [List.mem_singleton.1 h2, hzx] at h3; cases h3; exact absurd h1 hc
  ·have hmem : ∀ z, z ∈ out ↔ z ∈ X ∧ z ∈ Y := fun z => by
    rw [hout z, and_comm]
    refine and_congr ⟨fun ⟨s, _, h⟩ => List.mem_of_getElem? h, fun h => ?_⟩ Iff.rfl
    obtain ⟨i, hi⟩ := List.getElem?_of_mem h
    refine ⟨i, hall (i, z, .agg []) ?_, hi⟩
    rw [Acb, Ko, List.getElem?_map]
    show (X[i]?).map _ = _
    rw [hi]; rfl
   simp -dsimp (disch := first | assumption | omega | (simp only [Ad]; done) | (simp only [Ad]; omega)) only [↓Ah, Ae, Ag, Ai, eq_self, forall_const, Nat.reduceLT, Nat.reduceEqDiff, Nat.reduceSub, Nat.reduceMul, Nat.reduceMod, Nat.reduceDiv, Nat.reducePow, UInt8.reduceToNat, Int.reduceEq, Int.reduceLT, Int.reduceLE, ↓reduceIte, Nat.reduceAdd, Int.reduceToNat, reduceCtorEq, Nat.reduceLeDiff, ↓Cm]
   refine BQ (Ahk hok hl hp (S := out) (by omega) (fun x hx => hXl x ((hmem x).1 hx).1) (gi := gi) (mi := mi) (by rw [List.append_assoc, A7 k1]; exact hg) (by rw [List.append_assoc, A7 k2]; exact hm) rfl (fun K c0 c1 => Ada (ids := out) (N := out.length) (cs := out.map idT) (by omega) (by rw [List.append_assoc, List.getElem?_append_right (by omega)]; simp) (EX rfl) (by simp) c0 c1) (fun h0 H' => ?_) (fun id N cp cs H' q1 q2 q3 => ?_))
   ·simp -dsimp (disch := first | assumption | omega | (simp only [Ad]; done) | (simp only [Ad]; omega)) only [↓Ah, Ae, Ag, Ai, eq_self, forall_const, Nat.reduceLT, Nat.reduceEqDiff, Nat.reduceSub, Nat.reduceMul, Nat.reduceMod, Nat.reduceDiv, Nat.reducePow, UInt8.reduceToNat, Int.reduceEq, Int.reduceLT, Int.reduceLE, ↓reduceIte, Nat.reduceAdd, Int.reduceToNat, reduceCtorEq, Nat.reduceLeDiff, ↓Cm]
    exact h1 _ fun z hz => by rw [h0] at hmem; exact absurd ((hmem z).2 hz) (by simp)
   ·simp -dsimp (disch := first | assumption | omega | (simp only [Ad]; done) | (simp only [Ad]; omega)) only [↓Ah, Ae, Ag, Ai, eq_self, forall_const, Nat.reduceLT, Nat.reduceEqDiff, Nat.reduceSub, Nat.reduceMul, Nat.reduceMod, Nat.reduceDiv, Nat.reducePow, UInt8.reduceToNat, Int.reduceEq, Int.reduceLT, Int.reduceLE, ↓reduceIte, Nat.reduceAdd, Int.reduceToNat, reduceCtorEq, Nat.reduceLeDiff, ↓Cm]
    exact h2 out _ _ _ _ _ hmem q1 q2 q3
theorem Am1 (l : List Nd) (hl : l.length ≤ 100) (hp : ∀ n ∈ l, n.ps.length ≤ 1000) (a b : List UInt8) : Gh Tryd.prog 15 [.sl 22 (l.map ndT), idT a, idT b] (fun r =>
  (Abd l [a, b] → ∃ s x, (∀ z, z ∈ s ↔ Rc l [a] z ∧ Rc l [b] z) ∧ Ids (VP l (dd (IJ s))) x ∧ r = .tup [x, .val .nilIface]) ∧ (¬ Abd l [a, b] → r = .tup [.val (.slice none 0 0), .ifc 36 (i64 ((80 : Nat) : Int))])) := by
 refine Aq.toPureV (Aaj (by simp) ?_)
 simp -dsimp (disch := first | assumption | omega | (simp only [Ad]; done) | (simp only [Ad]; omega)) only [↓Ah, Ae, Ag, Ai, eq_self, forall_const, Nat.reduceLT, Nat.reduceEqDiff, Nat.reduceSub, Nat.reduceMul, Nat.reduceMod, Nat.reduceDiv, Nat.reducePow, UInt8.reduceToNat, Int.reduceEq, Int.reduceLT, Int.reduceLE, ↓reduceIte, Nat.reduceAdd, Int.reduceToNat, reduceCtorEq, Nat.reduceLeDiff, ↓LC, ↓Iu, AP]
 refine AlE (by rfl) (by rfl) (by simp) ?_
 simp -dsimp (disch := first | assumption | omega | (simp only [Ad]; done) | (simp only [Ad]; omega)) only [↓Ah, Ae, Ag, Ai, eq_self, forall_const, Nat.reduceLT, Nat.reduceEqDiff, Nat.reduceSub, Nat.reduceMul, Nat.reduceMod, Nat.reduceDiv, Nat.reducePow, UInt8.reduceToNat, Int.reduceEq, Int.reduceLT, Int.reduceLE, ↓reduceIte, Nat.reduceAdd, Int.reduceToNat, reduceCtorEq, Nat.reduceLeDiff, ↓LC, ↓Iu, Anc]
 refine BQ (show Aq _ _ [.sl 22 (l.map ndT), .sl 20 ([a, b].map idT)] _ _ from ofH l (by omega) hp [a, b] (by simp) (fun hok T => ?_) (fun hno g H' => ?_))
 ·simp -dsimp (disch := first | assumption | omega | (simp only [Ad]; done) | (simp only [Ad]; omega)) only [↓Ah, Ae, Ag, Ai, eq_self, forall_const, Nat.reduceLT, Nat.reduceEqDiff, Nat.reduceSub, Nat.reduceMul, Nat.reduceMod, Nat.reduceDiv, Nat.reducePow, UInt8.reduceToNat, Int.reduceEq, Int.reduceLT, Int.reduceLE, ↓reduceIte, Nat.reduceAdd, Int.reduceToNat, reduceCtorEq, Nat.reduceLeDiff, ↓Nb, ↓MO, ↓Sl, PW]
  have hin : ∀ z ∈ [a, b], z ∈ AL l := fun x hx => MR.1 (List.all_eq_true.1 hok.2 x hx)
  have cl : ∀ (x : List UInt8) (H : List Ob) (K : TV → List Ob → Prop), K (.os 20 H.length 1 [] 0 [x].length [x].length) (H ++ [.obj 1 (.arr [x].length 20 ([x].map idT))]) → Aq Tryd.prog 38 [.sl 20 [.arr 20 1 (x.map by8)]] H K := fun x H K h1 => by
   have := AdQ (ids := [x]) (by simp) (fun h => by cases h) h1
   simpa [AP] using this
  refine Aq.callsP (UU hok.1 (by omega) hp (S := [a]) (by simp) (fun z hz => hin z (by simp at hz; simp [hz])) (gi := 4) (mi := 3) rfl rfl rfl (fun K _ h1 => cl a _ K h1) (fun X T1 hndX hmX => ⟨?_, ?_⟩))
  ·simp -dsimp (disch := first | assumption | omega | (simp only [Ad]; done) | (simp only [Ad]; omega)) only [↓Ah, Ae, Ag, Ai, eq_self, forall_const, Nat.reduceLT, Nat.reduceEqDiff, Nat.reduceSub, Nat.reduceMul, Nat.reduceMod, Nat.reduceDiv, Nat.reducePow, UInt8.reduceToNat, Int.reduceEq, Int.reduceLT, Int.reduceLE, ↓reduceIte, Nat.reduceAdd, Int.reduceToNat, reduceCtorEq, Nat.reduceLeDiff, PW]
   refine Aq.callsP (UU hok.1 (by omega) hp (S := [b]) (by simp) (fun z hz => hin z (by simp at hz; simp [hz])) (gi := 4) (mi := 3) rfl rfl rfl (fun K _ h1 => cl b _ K h1) (fun Y T2 hndY hmY => ⟨?_, ?_⟩))
   ·simp -dsimp (disch := first | assumption | omega | (simp only [Ad]; done) | (simp only [Ad]; omega)) only [↓Ah, Ae, Ag, Ai, eq_self, forall_const, Nat.reduceLT, Nat.reduceEqDiff, Nat.reduceSub, Nat.reduceMul, Nat.reduceMod, Nat.reduceDiv, Nat.reducePow, UInt8.reduceToNat, Int.reduceEq, Int.reduceLT, Int.reduceLE, ↓reduceIte, Nat.reduceAdd, Int.reduceToNat, reduceCtorEq, Nat.reduceLeDiff]
    have hXs : ∀ x ∈ X, x ∈ AL l := fun x hx => Rc.there hok.1.1 (fun z hz => hin z (by simp at hz; simp [hz])) ((hmX x).1 hx)
    have hXl : X.length ≤ 100 := by
     have := Gf hndX hXs
     have h2 : (AL l).length = l.length := by simp [AL]
     omega
    have hz : ∀ s : List (List UInt8), (∀ z, z ∈ s ↔ z ∈ X ∧ z ∈ Y) → ∀ z, z ∈ s ↔ Rc l [a] z ∧ Rc l [b] z := fun s hs z => by rw [hs z, hmX z, hmY z]
    refine Ae3 hok.1 hl hp (X := X) (Y := Y) (gi := 4) (mi := 3) hXl hXs ?_ ?_ ?_ ?_ (fun H' hs => ?_) (fun s id N cp cs H' hs q1 q2 q3 => ?_)
    ·rfl
    ·rfl
    ·simp
    ·simp
    ·simp -dsimp (disch := first | assumption | omega | (simp only [Ad]; done) | (simp only [Ad]; omega)) only [↓Ah, Ae, Ag, Ai, eq_self, forall_const, Nat.reduceLT, Nat.reduceEqDiff, Nat.reduceSub, Nat.reduceMul, Nat.reduceMod, Nat.reduceDiv, Nat.reducePow, UInt8.reduceToNat, Int.reduceEq, Int.reduceLT, Int.reduceLE, ↓reduceIte, Nat.reduceAdd, Int.reduceToNat, reduceCtorEq, Nat.reduceLeDiff]
     exact ⟨fun _ => ⟨[], _, hz [] fun z => ⟨fun h => absurd h (by simp), fun h => absurd h (hs z)⟩, .inr ⟨by simp [IJ, dd, VP], rfl⟩, rfl⟩, fun h => absurd hok h⟩
    ·simp -dsimp (disch := first | assumption | omega | (simp only [Ad]; done) | (simp only [Ad]; omega)) only [↓Ah, Ae, Ag, Ai, eq_self, forall_const, Nat.reduceLT, Nat.reduceEqDiff, Nat.reduceSub, Nat.reduceMul, Nat.reduceMod, Nat.reduceDiv, Nat.reducePow, UInt8.reduceToNat, Int.reduceEq, Int.reduceLT, Int.reduceLE, ↓reduceIte, Nat.reduceAdd, Int.reduceToNat, reduceCtorEq, Nat.reduceLeDiff, q1, q2]
     exact ⟨fun _ => ⟨s, _, hz s hs, .inl rfl, rfl⟩, fun h => absurd hok h⟩
   ·change VZ [4, 5] _ _ _
    exact TM rfl rfl (TM rfl rfl Y9)
  ·change VZ [4, 5] _ _ _
   exact TM rfl rfl (TM rfl rfl Y9)
 ·simp -dsimp (disch := first | assumption | omega | (simp only [Ad]; done) | (simp only [Ad]; omega)) only [↓Ah, Ae, Ag, Ai, eq_self, forall_const, Nat.reduceLT, Nat.reduceEqDiff, Nat.reduceSub, Nat.reduceMul, Nat.reduceMod, Nat.reduceDiv, Nat.reducePow, UInt8.reduceToNat, Int.reduceEq, Int.reduceLT, Int.reduceLE, ↓reduceIte, Nat.reduceAdd, Int.reduceToNat, reduceCtorEq, Nat.reduceLeDiff, ↓Cm]
  exact ⟨fun h => absurd h hno, fun _ => trivial⟩
/-- The ids that are the VP ones, in order: no matter how they came. -/
theorem AkO {l : List Nd} {s t : List (List UInt8)} (ht : SD t) (hst : ∀ x, x ∈ t ↔ x ∈ s) : VP l (dd (IJ s)) = VP l t := by
 have : dd (IJ s) = t := SD.ext (Aia (XK s)) ht fun x => by rw [Aau, ZN, hst]
 rw [this]
theorem Ac0 (l : List Nd) (hl : l.length ≤ 100) (hp : ∀ n ∈ l, n.ps.length ≤ 1000) (a b : List UInt8) : Gh Tryd.prog 15 [.sl 22 (l.map ndT), idT a, idT b] (fun r =>
  (Abd l [a, b] → ∀ t, SD t → (∀ z, z ∈ t ↔ Rc l [a] z ∧ Rc l [b] z) → r = .tup [.sl 20 ((VP l t).map idT), .val .nilIface]) ∧ (¬ Abd l [a, b] → r = .tup [.val (.slice none 0 0), .ifc 36 (i64 ((80 : Nat) : Int))])) := by
 refine (Am1 l hl hp a b).conv ?_
 rintro x ⟨h1, h2⟩
 by_cases h : Abd l [a, b]
 ·obtain ⟨s, y, hs, hi, rfl⟩ := h1 h
  exact ⟨_, ⟨fun _ t ht hst => by rw [← AkO ht fun z => (hst z).trans (hs z).symm], fun h' => absurd h h'⟩, fun c w v hv => hi.conv c w v hv⟩
 ·exact ⟨x, ⟨fun h' => absurd h' h, h2⟩, fun _ _ _ h => h⟩
end Go.Proofs.YtingoaihnlhiaaaDoor


namespace Go.Proofs.YtingoaihnlhiaaaDoor
open Go.RowKit
variable [Bc]
set_option linter.unusedSectionVars false
set_option linter.unusedVariables false
set_option linter.unusedSimpArgs false

theorem AnN {l : List Nd} (hn : (AL l).Nodup) {i j : Nat} {x y : Nd} (hx : l[i]? = some x) (hy : l[j]? = some y) (e : x.id = y.id) : i = j := by
 obtain ⟨q1, rfl⟩ := List.getElem?_eq_some_iff.1 hx
 obtain ⟨q2, rfl⟩ := List.getElem?_eq_some_iff.1 hy
 have w1 := AaG hn q1
 have w2 := AaG hn q2
 rw [e, w2] at w1; omega
/-- None but some of the old objects is another one. -/
def Fz (S : List Nat) (H H' : List Ob) : Prop := H.length ≤ H'.length ∧ ∀ i, i < H.length → ¬ i ∈ S → H'[i]? = H[i]?
theorem Fz.trans {S : List Nat} {H H' H2 : List Ob} (h : Fz S H H') (k : Fz S H' H2) : Fz S H H2 := ⟨Nat.le_trans h.1 k.1, fun i h1 h2 => (k.2 i (Nat.lt_of_lt_of_le h1 h.1) h2).trans (h.2 i h1 h2)⟩
/-- A set of ids, in a map: none is gone, or some are. -/
def InS (o : Option Ob) (X : List (List UInt8)) (zs : List (Nat × List UInt8 × TV)) (cl : Nat) : Prop := stO o = some (.arr 20, zs, cl) ∧ zs.map (·.2) = Ko X ∧ (zs.map (·.1)).Nodup ∧ ∀ z ∈ zs, z.1 < cl
theorem InS.new {X : List (List UInt8)} : InS (some (.mpo (.arr 20) (Ko X))) X (Fp 0 (Ko X)) X.length := by
 have hl : (Ko X).length = X.length := by simp [Ko]
 refine ⟨by rw [Agj, hl], Ua _ _, by rw [Oz]; exact List.nodup_range', fun z hz => ?_⟩
 have := (AcG z hz).2
 omega
theorem InS.rd {o : Option Ob} {X : List (List UInt8)} {zs : List (Nat × List UInt8 × TV)} {cl : Nat} (h : InS o X zs cl) : Ry (.arr 20) o = some (Ko X) := by
 obtain ⟨h1, h2, _⟩ := h
 unfold stO at h1
 split at h1
 ·rename_i kk es
  simp only [Option.some.injEq, Prod.mk.injEq] at h1
  obtain ⟨rfl, rfl, rfl⟩ := h1
  rw [Ua] at h2
  simp [Ry, h2]
 ·rename_i kk zs' cl'
  simp only [Option.some.injEq, Prod.mk.injEq] at h1
  obtain ⟨rfl, rfl, rfl⟩ := h1
  simp [Ry, h2]
 ·cases h1
theorem InS.stIn {o : Option Ob} {X : List (List UInt8)} {zs : List (Nat × List UInt8 × TV)} {cl : Nat} (h : InS o X zs cl) : stIn (.arr 20) o = some (zs, cl) := by
 unfold Go.Proofs.YtingoaihnlhiaaaDoor.stIn
 rw [h.1]; simp
theorem InS.val {o : Option Ob} {X : List (List UInt8)} {zs : List (Nat × List UInt8 × TV)} {cl : Nat} (h : InS o X zs cl) {z : Nat × List UInt8 × TV} (hz : z ∈ zs) : z.2.1 ∈ X ∧ z.2.2 = .agg [] := by
 have h1 : z.2 ∈ Ko X := by rw [← h.2.1]; exact List.mem_map_of_mem hz
 obtain ⟨k, hk, e⟩ := List.mem_map.1 h1
 rw [← e]; exact ⟨hk, rfl⟩
theorem WH {α β : Type} (f : α → β) : ∀ (l : List α) (i : Nat), (l.eraseIdx i).map f = (l.map f).eraseIdx i
 | [], _ => by simp
 | a :: l, 0 => by simp
 | a :: l, i + 1 => by simp [WH f l i]
theorem AeY (X : List (List UInt8)) (k : List UInt8) : (Ko X).eraseIdx (Uy k (Ko X)) = Ko (X.erase k) := by
 induction X with
 | nil => rfl
 | cons a X ih =>
  unfold Ko at ih ⊢
  rw [List.map_cons, Uy]
  by_cases h : a = k
  ·subst h; simp
  ·have h2 : (a == k) = false := by simpa using h
   rw [if_neg h, List.eraseIdx_cons_succ, ih, List.erase_cons_tail (by simp [h2]), List.map_cons]
theorem InS.del {o : Option Ob} {X : List (List UInt8)} {zs : List (Nat × List UInt8 × TV)} {cl : Nat} (h : InS o X zs cl) (k : List UInt8) : InS (some (.mpd (.arr 20) (zs.eraseIdx (Uy k (zs.map (·.2)))) cl)) (X.erase k) (zs.eraseIdx (Uy k (zs.map (·.2)))) cl := by
 obtain ⟨h1, h2, h3, h4⟩ := h
 refine ⟨by rw [Ahe], ?_, ?_, fun z hz => h4 z ((List.eraseIdx_sublist _ _).subset hz)⟩
 ·rw [WH, h2, AeY]
 ·exact h3.sublist ((List.eraseIdx_sublist _ _).map _)
/-- A range: what was seen of its stamps, of its ids. -/
structure Rng (zs : List (Nat × List UInt8 × TV)) (X : List (List UInt8)) (sn : List Nat) (D : List (List UInt8)) : Prop where
 nd : D.Nodup
 eq : ∀ z ∈ zs, (z.1 ∈ sn ↔ z.2.1 ∈ D)
 sub : ∀ x ∈ D, x ∈ X
theorem Rng.start {zs : List (Nat × List UInt8 × TV)} {X : List (List UInt8)} : Rng zs X [] [] := ⟨List.nodup_nil, fun z _ => by simp, by simp⟩
theorem Rng.next {o : Option Ob} {X : List (List UInt8)} {zs : List (Nat × List UInt8 × TV)} {cl : Nat} (h : InS o X zs cl) (hX : X.Nodup) {sn : List Nat} {D : List (List UInt8)} (hr : Rng zs X sn D) {z : Nat × List UInt8 × TV} (hz : z ∈ zs) (hn : z.1 ∉ sn) : Rng zs X (sn ++ [z.1]) (D ++ [z.2.1]) ∧ ¬ z.2.1 ∈ D := by
 have hnew : ¬ z.2.1 ∈ D := fun k => hn ((hr.eq z hz).2 k)
 have hkeys : (zs.map fun z => z.2.1).Nodup := by
  have : (zs.map fun z => z.2.1) = X := by
   have := congrArg (List.map (·.1)) h.2.1
   rw [Ot, List.map_map] at this
   exact this
  rw [this]; exact hX
 have inj : ∀ {α : Type} (f : Nat × List UInt8 × TV → α), (zs.map f).Nodup → ∀ a ∈ zs, ∀ b ∈ zs, f a = f b → a = b := by
  intro α f hnd a ha b hb e
  obtain ⟨i, hi, rfl⟩ := List.getElem_of_mem ha
  obtain ⟨j, hj, rfl⟩ := List.getElem_of_mem hb
  have := (List.getElem_inj (xs := zs.map f) (i := i) (j := j) (h₀ := by simpa using hi) (h₁ := by simpa using hj) hnd).1 (by simpa using e)
  subst this; rfl
 refine ⟨⟨?_, fun z' hz' => ?_, fun x hx => ?_⟩, hnew⟩
 ·rw [List.nodup_append]
  exact ⟨hr.nd, by simp, fun a ha b hb e => by rw [List.mem_singleton] at hb; subst hb; subst e; exact hnew ha⟩
 ·rw [List.mem_append, List.mem_append, List.mem_singleton, List.mem_singleton, hr.eq z' hz']
  refine or_congr Iff.rfl ⟨fun e => ?_, fun e => ?_⟩
  ·rw [inj (·.1) h.2.2.1 z' hz' z hz e]
  ·rw [inj (fun z => z.2.1) hkeys z' hz' z hz e]
 ·rcases List.mem_append.1 hx with hx | hx
  ·exact hr.sub x hx
  ·rw [List.mem_singleton.1 hx]; exact (h.val hz).1
theorem Rng.all {o : Option Ob} {X : List (List UInt8)} {zs : List (Nat × List UInt8 × TV)} {cl : Nat} (h : InS o X zs cl) {sn : List Nat} {D : List (List UInt8)} (hr : Rng zs X sn D) (ha : ∀ z ∈ zs, z.1 ∈ sn) : ∀ x, x ∈ D ↔ x ∈ X := fun x => by
 refine ⟨hr.sub x, fun hx => ?_⟩
 have h1 : (x, TV.agg []) ∈ zs.map (·.2) := by rw [h.2.1]; exact List.mem_map.2 ⟨x, hx, rfl⟩
 obtain ⟨z, hz, e⟩ := List.mem_map.1 h1
 have := (hr.eq z hz).1 (ha z hz)
 rw [e] at this; exact this
theorem Rng.le {zs : List (Nat × List UInt8 × TV)} {X : List (List UInt8)} {sn : List Nat} {D : List (List UInt8)} (hr : Rng zs X sn D) : D.length ≤ X.length := Gf hr.nd hr.sub
theorem InS.ent {o : Option Ob} {X : List (List UInt8)} {zs : List (Nat × List UInt8 × TV)} {cl m : Nat} (h : InS o X zs cl) {sn : List Nat} {z : Nat × List UInt8 × TV} (hz : z ∈ zs) : Ae7 (m, sn ++ [z.1], cl) (.arr 20, zs, cl) = some (.tup [.arr 20 1 (z.2.1.map by8), .agg []]) := by
 rw [AaE h.2.2.1 hz, Aeq, (h.val hz).2]
end Go.Proofs.YtingoaihnlhiaaaDoor


namespace Go.Proofs.YtingoaihnlhiaaaDoor
open Go.RowKit
variable [Bc]
set_option linter.unusedSectionVars false
set_option linter.unusedVariables false
set_option linter.unusedSimpArgs false

theorem Qu.pushed {H : List Ob} {q r v n : Nat} {cs : List TV} {f : Nat → Nd} (hq : q < H.length) (hr : r < H.length) (hcs : ∀ i, i < n → cs[i]? = some (ndT (f i))) (hn : n < 100000) (h20 : ∀ i, i < n → (f i).id.length = 20) (hne : q ≠ r) {x : Nd} (hx : x.id.length = 20) :
  Qu ((H.set r (.obj (v + 1) (.arr (n + 1) 22 (cs.take n ++ [ndT x])))).set q (.obj 0 (.os 22 r (v + 1) [] 0 (n + 1) (n + 1)))) q r (n + 1) (fun k => if k = n then x else f k) := by
 have hcl : n ≤ cs.length := by
  rcases Nat.eq_zero_or_pos n with h0 | h0
  ·omega
  ·have := Ap (hcs (n - 1) (by omega)); omega
 have htl : (cs.take n).length = n := by simp [hcl]
 refine ⟨v + 1, n + 1, List.getElem?_set_self (by simpa using hq), ⟨n + 1, _, by rw [List.getElem?_set_ne hne, List.getElem?_set_self hr], fun i hi => ?_, by omega, fun i hi => ?_⟩, Nat.le_refl _, hne⟩
 ·by_cases e : i = n
  ·subst e
   rw [List.getElem?_append_right (by omega), htl]; simp
  ·rw [List.getElem?_append_left (by omega), List.getElem?_take, if_pos (by omega), hcs i (by omega)]; simp [e]
 ·by_cases e : i = n
  ·simp only [e, if_true]; exact hx
  ·simp only [e, if_false]; exact h20 i (by omega)
theorem QIn.add {l : List Nd} (hn : (AL l).Nodup) {D : List (List UInt8)} {f : List UInt8 → Nat} {n : Nat} {g : Nat → Nd} (h : QIn l D f n g) {m : Nd} (hm : m ∈ l) (hf : f m.id = 0) (hD : ¬ m.id ∈ D) : QIn l (D ++ [m.id]) f (n + 1) (fun k => if k = n then m else g k) := by
 have hold : ∀ k, k < n → (g k).id ≠ m.id := fun k hk e => hD (by have := ((h.mem (g k)).1 ⟨k, hk, rfl⟩).2.1; rwa [e] at this)
 refine ⟨fun x => ?_, fun i j hi hj e => ?_⟩
 ·constructor
  ·rintro ⟨k, hk, rfl⟩
   by_cases c : k = n
   ·simp only [c, if_true]; exact ⟨hm, by simp, hf⟩
   ·simp only [c, if_false]
    obtain ⟨a, b, d⟩ := (h.mem (g k)).1 ⟨k, by omega, rfl⟩
    exact ⟨a, List.mem_append_left _ b, d⟩
  ·rintro ⟨a, b, d⟩
   rcases List.mem_append.1 b with b | b
   ·obtain ⟨k, hk, rfl⟩ := (h.mem x).2 ⟨a, b, d⟩
    exact ⟨k, by omega, by simp [Nat.ne_of_lt hk]⟩
   ·have e := List.mem_singleton.1 b
    obtain ⟨i, hi⟩ := List.getElem?_of_mem hm
    obtain ⟨j, hj⟩ := List.getElem?_of_mem a
    have : i = j := AnN hn hi hj e.symm
    subst this
    rw [hi] at hj; cases hj
    exact ⟨n, Nat.lt_succ_self n, by simp⟩
 ·by_cases c : i = n <;> by_cases d : j = n
  ·omega
  ·simp only [c, d, if_true, if_false] at e; exact absurd e.symm (hold j (by omega))
  ·simp only [c, d, if_true, if_false] at e; exact absurd e (hold i (by omega))
  ·simp only [c, d, if_false] at e; exact h.inj i j (by omega) (by omega) e
theorem QIn.skip {l : List Nd} {D : List (List UInt8)} {f : List UInt8 → Nat} {n : Nat} {g : Nat → Nd} (h : QIn l D f n g) {k : List UInt8} (hf : f k ≠ 0) : QIn l (D ++ [k]) f n g := by
 refine ⟨fun x => ?_, h.inj⟩
 rw [h.mem x]
 refine and_congr Iff.rfl ⟨fun ⟨a, b⟩ => ⟨List.mem_append_left _ a, b⟩, fun ⟨a, b⟩ => ⟨?_, b⟩⟩
 rcases List.mem_append.1 a with a | a
 ·exact a
 ·rw [List.mem_singleton.1 a] at b; exact absurd b hf
theorem QIn.same {l : List Nd} {D E : List (List UInt8)} {f : List UInt8 → Nat} {n : Nat} {g : Nat → Nd} (h : QIn l D f n g) (e : ∀ x, x ∈ D ↔ x ∈ E) : QIn l E f n g := ⟨fun x => by rw [h.mem x, e], h.inj⟩
theorem AkL {l : List Nd} (hok : GOk l) (hl : l.length ≤ 100) (hp : ∀ n ∈ l, n.ps.length ≤ 1000) (h20 : ∀ n ∈ l, n.id.length = 20) {X : List (List UInt8)} (hXn : X.Nodup) (hX : ∀ x ∈ X, x ∈ AL l) {gi mi mn ml cl : Nat} {zs : List (Nat × List UInt8 × TV)} {H : List Ob} {es : List (List UInt8 × TV)}
  (ix : mi < gi ∧ gi < mn ∧ mn < ml) (hgr : H[gi]? = some (.obj 0 (.agg [.mp mi 0, .val (.map none)]))) (hnm : H[mi]? = some (.mpo (.arr 20) (AZ l))) (hin : InS H[mn]? X zs cl) (hml : H[ml]? = some (.mpo (.arr 20) es)) (hcn : Y2 es (cnt l X)) {K : TV → List Ob → Prop}
  (hK : ∀ ids H' io v cp, AdU l (· ∈ X) ids → ids.length ≤ l.length → H'[io]? = some (.obj v (.arr ids.length 20 (ids.map idT))) → K (.tup [.os 20 io v [] 0 ids.length cp, .val .nilIface]) H') :
  vwp Tryd.prog Jd (Yc Ff K) [(8, .op gi 0 []), (11, .mp mn 0), (13, .mp ml 0)] H := by
 have hmll := Ap hml
 have hst := hin.1
 simp -dsimp (disch := first | assumption | omega | (simp only [Ad]; done) | (simp only [Ad]; omega)) only [↓Ah, Ae, Ag, Ai, eq_self, forall_const, Nat.reduceLT, Nat.reduceEqDiff, Nat.reduceSub, Nat.reduceMul, Nat.reduceMod, Nat.reduceDiv, Nat.reducePow, UInt8.reduceToNat, Int.reduceEq, Int.reduceLT, Int.reduceLE, ↓reduceIte, Nat.reduceAdd, Int.reduceToNat, reduceCtorEq, Nat.reduceLeDiff, ↓Ve, ↓U3, ↓Vr, hst]
 refine BN (fun m e H' => ∃ (sn : List Nat) (D : List (List UInt8)) (n : Nat) (g : Nat → Nd), m = X.length - D.length ∧ Rng zs X sn D ∧ (∀ i, i < H.length → H'[i]? = H[i]?) ∧ H.length + 3 ≤ H'.length ∧ H'[H.length + 1 + 1]? = some (.mit mn sn cl) ∧ Qu H' (H.length + 1) H.length n g ∧ QIn l D (cnt l X) n g ∧
  e = [(8, .op gi 0 []), (11, .mp mn 0), (13, .mp ml 0), (17, .op (H.length + 1) 0 []), (78, .op (H.length + 1 + 1) 0 [])]) X.length ?_ ?_
 ·refine ⟨[], [], 0, fun _ => ⟨[], [], 0⟩, by simp, Rng.start, fun i hi => ?_, by simp, ?_, ⟨0, 0, ?_, ⟨0, [], ?_, fun i h => by omega, by omega, fun i h => by omega⟩, by omega, by omega⟩, ⟨fun x => ⟨fun ⟨k, hk, _⟩ => by omega, fun ⟨_, h, _⟩ => by simp at h⟩, fun i j h => by omega⟩, rfl⟩
  ·rw [A7 (by simp; omega), A7 (by simp; omega), A7 hi]
  ·rw [List.getElem?_append_right (by simp)]; simp
  ·rw [A7 (by simp), List.getElem?_append_right (by simp)]; simp
  ·rw [A7 (by simp), A7 (by simp), List.getElem?_append_right (by simp)]; simp
 ·rintro m e H1 ⟨sn, D, n, g, rfl, hR, hlow, hlen, hit, hQ, hqi, rfl⟩
  have hst1 : stO H1[mn]? = some (.arr 20, zs, cl) := by rw [hlow mn (by omega)]; exact hst
  simp -dsimp (disch := first | assumption | omega | (simp only [Ad]; done) | (simp only [Ad]; omega)) only [↓Ah, Ae, Ag, Ai, eq_self, forall_const, Nat.reduceLT, Nat.reduceEqDiff, Nat.reduceSub, Nat.reduceMul, Nat.reduceMod, Nat.reduceDiv, Nat.reducePow, UInt8.reduceToNat, Int.reduceEq, Int.reduceLT, Int.reduceLE, ↓reduceIte, Nat.reduceAdd, Int.reduceToNat, reduceCtorEq, Nat.reduceLeDiff, ↓VD, hit, hst1]
  refine Ud rfl hin.2.2.2 (fun z hz hzn => ?_) (fun hall => ?_)
  ·obtain ⟨hR', hzD⟩ := hR.next hin hXn hz hzn
   have hRl := hR'.le
   rw [List.length_append, List.length_singleton] at hRl
   have hent := hin.ent (m := mn) (sn := sn) hz
   have hzX := (hin.val hz).1
   have hit2 : (H1.set (H.length + 1 + 1) (.mit mn (sn ++ [z.1]) cl))[H.length + 1 + 1]? = some (.mit mn (sn ++ [z.1]) cl) := List.getElem?_set_self (by omega)
   have hlow2 : ∀ i, i < H.length → (H1.set (H.length + 1 + 1) (.mit mn (sn ++ [z.1]) cl))[i]? = H[i]? := fun i hi => by rw [List.getElem?_set_ne (by omega)]; exact hlow i hi
   have hlen2 : (H1.set (H.length + 1 + 1) (.mit mn (sn ++ [z.1]) cl)).length = H1.length := by simp
   have hQ2 := hQ.seti (i := H.length + 1 + 1) (o := .mit mn (sn ++ [z.1]) cl) (by omega) (by omega)
   generalize H1.set (H.length + 1 + 1) (.mit mn (sn ++ [z.1]) cl) = H2 at *
   have hst2 : stO H2[mn]? = some (.arr 20, zs, cl) := by rw [hlow2 mn (by omega)]; exact hst
   have hml2 : H2[ml]? = some (.mpo (.arr 20) es) := by rw [hlow2 ml hmll]; exact hml
   have hgr2 : H2[gi]? = some (.obj 0 (.agg [.mp mi 0, .val (.map none)])) := by rw [hlow2 gi (by omega)]; exact hgr
   have hnm2 : H2[mi]? = some (.mpo (.arr 20) (AZ l)) := by rw [hlow2 mi (by omega)]; exact hnm
   obtain ⟨y, hy, hyz⟩ := List.mem_map.1 (hX _ hzX)
   have hcp := hcn z.2.1
   have hlook : GL z.2.1 (AZ l) = some (ndT y) := by rw [← hyz]; exact EY hok.1.nodup hy
   have hle := hqi.le
   by_cases h0 : cnt l X z.2.1 = 0
   ·rw [h0] at hcp
    obtain ⟨v, cp, hq, ⟨N, cs, hr, hcs, _, hr20⟩, hcpn, hne⟩ := hQ2
    have hcl : n ≤ cs.length := by
     rcases Nat.eq_zero_or_pos n with h0 | h0
     ·omega
     ·have := Ap (hcs (n - 1) (by omega)); omega
    simp -dsimp (disch := first | assumption | omega | (simp only [Ad]; done) | (simp only [Ad]; omega)) only [↓Ah, Ae, Ag, Ai, eq_self, forall_const, Nat.reduceLT, Nat.reduceEqDiff, Nat.reduceSub, Nat.reduceMul, Nat.reduceMod, Nat.reduceDiv, Nat.reducePow, UInt8.reduceToNat, Int.reduceEq, Int.reduceLT, Int.reduceLE, ↓reduceIte, Nat.reduceAdd, Int.reduceToNat, reduceCtorEq, Nat.reduceLeDiff, ↓F9, ↓LD, ↓LX, ↓L9, ↓Vj, hit2, hst2, hent, hml2, hcp, hgr2, hnm2, hlook, Bf, hq, hr, PW, LP]
    rw [← Bf]
    have hpu := Qu.pushed (H := H2) (q := H.length + 1) (r := H.length) (v := v) (cs := cs) (x := y) (by omega) (by omega) hcs (by omega) hr20 hne (h20 y hy)
    rw [← hyz] at hR' h0 hzD
    refine AY (X.length - (D.length + 1)) (by omega) (by simp; omega) ⟨sn ++ [z.1], D ++ [y.id], n + 1, _, by simp, hR', fun i hi => ?_, by simp; omega, ?_, hpu.app.app, hqi.add hok.1.nodup hy h0 hzD, by simp [forget, get]⟩
    ·rw [A7 (by simp; omega), A7 (by simp; omega), List.getElem?_set_ne (by omega), List.getElem?_set_ne (by omega)]; exact hlow2 i hi
    ·rw [A7 (by simp; omega), A7 (by simp; omega), List.getElem?_set_ne (by omega), List.getElem?_set_ne (by omega)]; exact hit2
   ·simp -dsimp (disch := first | assumption | omega | (simp only [Ad]; done) | (simp only [Ad]; omega)) only [↓Ah, Ae, Ag, Ai, eq_self, forall_const, Nat.reduceLT, Nat.reduceEqDiff, Nat.reduceSub, Nat.reduceMul, Nat.reduceMod, Nat.reduceDiv, Nat.reducePow, UInt8.reduceToNat, Int.reduceEq, Int.reduceLT, Int.reduceLE, ↓reduceIte, Nat.reduceAdd, Int.reduceToNat, reduceCtorEq, Nat.reduceLeDiff, ↓F9, ↓LD, ↓LX, ↓L9, hit2, hst2, hent, hml2, hcp]
    exact AY (X.length - (D.length + 1)) (by omega) (by simp; omega) ⟨sn ++ [z.1], D ++ [z.2.1], n, g, by simp, hR', fun i hi => by rw [A7 (by omega)]; exact hlow2 i hi, by simp; omega, by rw [A7 (by omega)]; exact hit2, hQ2.app, hqi.skip h0, by simp [forget, get]⟩
  ·have hDX := hR.all hin hall
   simp -dsimp (disch := first | assumption | omega | (simp only [Ad]; done) | (simp only [Ad]; omega)) only [↓Ah, Ae, Ag, Ai, eq_self, forall_const, Nat.reduceLT, Nat.reduceEqDiff, Nat.reduceSub, Nat.reduceMul, Nat.reduceMod, Nat.reduceDiv, Nat.reducePow, UInt8.reduceToNat, Int.reduceEq, Int.reduceLT, Int.reduceLE, ↓reduceIte, Nat.reduceAdd, Int.reduceToNat, reduceCtorEq, Nat.reduceLeDiff, ↓F9, ↓UY]
   refine BQ (A1T hQ fun H2 g2 a1 a2 a3 a4 => ?_)
   simp -dsimp (disch := first | assumption | omega | (simp only [Ad]; done) | (simp only [Ad]; omega)) only [↓Ah, Ae, Ag, Ai, eq_self, forall_const, Nat.reduceLT, Nat.reduceEqDiff, Nat.reduceSub, Nat.reduceMul, Nat.reduceMod, Nat.reduceDiv, Nat.reducePow, UInt8.reduceToNat, Int.reduceEq, Int.reduceLT, Int.reduceLE, ↓reduceIte, Nat.reduceAdd, Int.reduceToNat, reduceCtorEq, Nat.reduceLeDiff]
   have hlow2 : ∀ i, i < H.length → H2[i]? = H[i]? := fun i hi => by rw [a2.2 i (by omega) (by omega) (by omega)]; exact hlow i hi
   exact AjQ hok hl hp h20 hXn hX ⟨ix.1, ix.2.1, ix.2.2, hmll, Nat.lt_succ_self _⟩ (by rw [hlow2 gi (by omega)]; exact hgr) (by rw [hlow2 mi (by omega)]; exact hnm) (by rw [hlow2 mn (by omega)]; exact hin.rd) ⟨es, by rw [hlow2 ml hmll]; exact hml, hcn⟩ a1 ((hqi.same hDX).sh a3) a4 hK
end Go.Proofs.YtingoaihnlhiaaaDoor


namespace Go.Proofs.YtingoaihnlhiaaaDoor
open Go.RowKit
variable [Bc]
set_option linter.unusedSectionVars false
set_option linter.unusedVariables false
set_option linter.unusedSimpArgs false

/-- How often each one is named. -/
theorem Ahv {l : List Nd} (hok : GOk l) (hl : l.length ≤ 100) (hp : ∀ n ∈ l, n.ps.length ≤ 1000) (h20 : ∀ n ∈ l, n.id.length = 20) {X : List (List UInt8)} (hXn : X.Nodup) (hX : ∀ x ∈ X, x ∈ AL l) {gi mi mn cl : Nat} {zs : List (Nat × List UInt8 × TV)} {H : List Ob}
  (ix : mi < gi ∧ gi < mn) (hgr : H[gi]? = some (.obj 0 (.agg [.mp mi 0, .val (.map none)]))) (hnm : H[mi]? = some (.mpo (.arr 20) (AZ l))) (hin : InS H[mn]? X zs cl) {K : TV → List Ob → Prop}
  (hK : ∀ ids H' io v cp, AdU l (· ∈ X) ids → ids.length ≤ l.length → H'[io]? = some (.obj v (.arr ids.length 20 (ids.map idT))) → K (.tup [.os 20 io v [] 0 ids.length cp, .val .nilIface]) H') :
  vwp Tryd.prog Jl (Yc Ff K) [(8, .op gi 0 []), (11, .mp mn 0)] H := by
 have hst := hin.1
 have hmnl : mn < H.length := Qi hin.rd
 have hXl : X.length ≤ l.length := by
  have := Gf hXn hX
  simpa [AL] using this
 simp -dsimp (disch := first | assumption | omega | (simp only [Ad]; done) | (simp only [Ad]; omega)) only [↓Ah, Ae, Ag, Ai, eq_self, forall_const, Nat.reduceLT, Nat.reduceEqDiff, Nat.reduceSub, Nat.reduceMul, Nat.reduceMod, Nat.reduceDiv, Nat.reducePow, UInt8.reduceToNat, Int.reduceEq, Int.reduceLT, Int.reduceLE, ↓reduceIte, Nat.reduceAdd, Int.reduceToNat, reduceCtorEq, Nat.reduceLeDiff, ↓VJ, ↓Vy, ↓Vp, hst]
 refine BN (fun m e H' => ∃ (sn : List Nat) (D : List (List UInt8)) (es : List (List UInt8 × TV)), m = X.length - D.length ∧ Rng zs X sn D ∧ (∀ i, i < H.length → H'[i]? = H[i]?) ∧ H.length + 2 ≤ H'.length ∧ H'[H.length + 1]? = some (.mit mn sn cl) ∧ H'[H.length]? = some (.mpo (.arr 20) es) ∧ Y2 es (cnt l D) ∧
  e = [(8, .op gi 0 []), (11, .mp mn 0), (13, .mp H.length 0), (51, .op (H.length + 1) 0 [])]) X.length ?_ ?_
 ·refine ⟨[], [], [], by simp, Rng.start, fun i hi => ?_, by simp, ?_, ?_, Y2.nil.congr fun y => An1, by simp [forget, get]⟩
  ·rw [A7 (by simp; omega), A7 hi]
  ·rw [List.getElem?_append_right (by simp)]; simp
  ·rw [A7 (by simp), List.getElem?_append_right (by simp)]; simp
 ·rintro m e H1 ⟨sn, D, es, rfl, hR, hlow, hlen, hit, hml, hc, rfl⟩
  have hst1 : stO H1[mn]? = some (.arr 20, zs, cl) := by rw [hlow mn hmnl]; exact hst
  simp -dsimp (disch := first | assumption | omega | (simp only [Ad]; done) | (simp only [Ad]; omega)) only [↓Ah, Ae, Ag, Ai, eq_self, forall_const, Nat.reduceLT, Nat.reduceEqDiff, Nat.reduceSub, Nat.reduceMul, Nat.reduceMod, Nat.reduceDiv, Nat.reducePow, UInt8.reduceToNat, Int.reduceEq, Int.reduceLT, Int.reduceLE, ↓reduceIte, Nat.reduceAdd, Int.reduceToNat, reduceCtorEq, Nat.reduceLeDiff, ↓Xh, hit, hst1]
  refine Ud rfl hin.2.2.2 (fun z hz hzn => ?_) (fun hall => ?_)
  ·obtain ⟨hR', hzD⟩ := hR.next hin hXn hz hzn
   have hRl := hR'.le
   rw [List.length_append, List.length_singleton] at hRl
   have hent := hin.ent (m := mn) (sn := sn) hz
   have hzX := (hin.val hz).1
   have hit2 : (H1.set (H.length + 1) (.mit mn (sn ++ [z.1]) cl))[H.length + 1]? = some (.mit mn (sn ++ [z.1]) cl) := List.getElem?_set_self (by omega)
   have hlow2 : ∀ i, i < H.length → (H1.set (H.length + 1) (.mit mn (sn ++ [z.1]) cl))[i]? = H[i]? := fun i hi => by rw [List.getElem?_set_ne (by omega)]; exact hlow i hi
   have hlen2 : (H1.set (H.length + 1) (.mit mn (sn ++ [z.1]) cl)).length = H1.length := by simp
   have hml2 : (H1.set (H.length + 1) (.mit mn (sn ++ [z.1]) cl))[H.length]? = some (.mpo (.arr 20) es) := by rw [List.getElem?_set_ne (by omega)]; exact hml
   generalize H1.set (H.length + 1) (.mit mn (sn ++ [z.1]) cl) = H2 at *
   have hst2 : stO H2[mn]? = some (.arr 20, zs, cl) := by rw [hlow2 mn hmnl]; exact hst
   have hgr2 : H2[gi]? = some (.obj 0 (.agg [.mp mi 0, .val (.map none)])) := by rw [hlow2 gi (by omega)]; exact hgr
   have hnm2 : H2[mi]? = some (.mpo (.arr 20) (AZ l)) := by rw [hlow2 mi (by omega)]; exact hnm
   obtain ⟨y, hy, hyz⟩ := List.mem_map.1 (hX _ hzX)
   have hlook : GL z.2.1 (AZ l) = some (ndT y) := by rw [← hyz]; exact EY hok.1.nodup hy
   have hpy : pOf l z.2.1 = y.ps := by rw [← hyz]; exact Xm hok.1.nodup hy
   have hpl := hp y hy
   have hDb := fun q => Alu hp D q
   simp -dsimp (disch := first | assumption | omega | (simp only [Ad]; done) | (simp only [Ad]; omega)) only [↓Ah, Ae, Ag, Ai, eq_self, forall_const, Nat.reduceLT, Nat.reduceEqDiff, Nat.reduceSub, Nat.reduceMul, Nat.reduceMod, Nat.reduceDiv, Nat.reducePow, UInt8.reduceToNat, Int.reduceEq, Int.reduceLT, Int.reduceLE, ↓reduceIte, Nat.reduceAdd, Int.reduceToNat, reduceCtorEq, Nat.reduceLeDiff, ↓Nr, ↓WU, ↓WX, ↓Wq, hit2, hst2, hent, hgr2, hnm2, hlook, Bf]
   refine BN (fun m e H' => ∃ (j : Nat) (es : List (List UInt8 × TV)) (f : List UInt8 → Nat), m = y.ps.length - j ∧ j ≤ y.ps.length ∧ (∀ q, f q = cnt l D q + (y.ps.take j).count q) ∧ (∀ i, i < H.length → H'[i]? = H[i]?) ∧ H2.length + 1 ≤ H'.length ∧ H'[H.length + 1]? = some (.mit mn (sn ++ [z.1]) cl) ∧ H'[H.length]? = some (.mpo (.arr 20) es) ∧ Y2 es f ∧
    e = [(8, .op gi 0 []), (11, .mp mn 0), (13, .mp H.length 0), (51, .op (H.length + 1) 0 []), (62, .sl 20 (y.ps.map idT)), (63, i64 (y.ps.length : Int)), (64, i64 (j : Int))]) y.ps.length ?_ ?_
   ·refine ⟨0, es, cnt l D, rfl, by omega, by simp, fun i hi => by rw [A7 (by omega)]; exact hlow2 i hi, by simp, by rw [A7 (by omega)]; exact hit2, by rw [A7 (by omega)]; exact hml2, hc, by simp [forget, get]⟩
   ·clear hit2 hml2 hlow2 hst2 hgr2 hnm2 hc hml
    rintro m e H3 ⟨j, es, f, rfl, hj, hf, hlow3, hlen3, hit3, hml3, hc, rfl⟩
    by_cases h : j < y.ps.length
    ·have hg2 : y.ps[j]? = some y.ps[j] := List.getElem?_eq_getElem h
     have hsucc := List.take_succ_eq_append_getElem h
     generalize y.ps[j] = p at *
     have hcp := hc p
     have hfp := hf p
     have hfb : (y.ps.take j).count p ≤ j := Nat.le_trans List.count_le_length (by rw [List.length_take]; omega)
     have hDp := hDb p
     have hfm : f p ≤ 1000000 := by omega
     simp -dsimp (disch := first | assumption | omega | (simp only [Ad]; done) | (simp only [Ad]; omega)) only [↓Ah, Ae, Ag, Ai, eq_self, forall_const, Nat.reduceLT, Nat.reduceEqDiff, Nat.reduceSub, Nat.reduceMul, Nat.reduceMod, Nat.reduceDiv, Nat.reducePow, UInt8.reduceToNat, Int.reduceEq, Int.reduceLT, Int.reduceLE, ↓reduceIte, Nat.reduceAdd, Int.reduceToNat, reduceCtorEq, Nat.reduceLeDiff, ↓MS, ↓Nq, ↓VX, hg2, AP, hml3, hcp, Vg, Qe, pr1, pr2]
     refine AY (y.ps.length - (j + 1)) (by omega) (by simp; omega) ⟨j + 1, _, _, rfl, by omega, fun q => ?_, fun i hi => ?_, by simp; omega, ?_, ?_, hc.put p (f p + 1), by simp [forget, get]⟩
     ·rw [hsucc, List.count_append, ← Nat.add_assoc, ← hf q]
      by_cases e : p = q
      ·subst e; simp
      ·simp [e]
     ·rw [A7 (by simp; omega), List.getElem?_set_ne (by omega)]; exact hlow3 i hi
     ·rw [A7 (by simp; omega), List.getElem?_set_ne (by omega)]; exact hit3
     ·rw [A7 (by simp; omega), List.getElem?_set_self (by omega)]
    ·have hj2 : j = y.ps.length := by omega
     rw [hj2, List.take_length] at hf
     simp -dsimp (disch := first | assumption | omega | (simp only [Ad]; done) | (simp only [Ad]; omega)) only [↓Ah, Ae, Ag, Ai, eq_self, forall_const, Nat.reduceLT, Nat.reduceEqDiff, Nat.reduceSub, Nat.reduceMul, Nat.reduceMod, Nat.reduceDiv, Nat.reducePow, UInt8.reduceToNat, Int.reduceEq, Int.reduceLT, Int.reduceLE, ↓reduceIte, Nat.reduceAdd, Int.reduceToNat, reduceCtorEq, Nat.reduceLeDiff, ↓MS, ↓Nq]
     exact AY (X.length - (D.length + 1)) (by omega) (by omega) ⟨sn ++ [z.1], D ++ [z.2.1], es, by simp, hR', hlow3, by omega, hit3, hml3, hc.congr fun q => by rw [AlO, hpy, hf q], by simp [forget, get]⟩
  ·have hDX := hR.all hin hall
   have hperm : D.Perm X := (List.perm_ext_iff_of_nodup hR.nd hXn).2 hDX
   simp -dsimp (disch := first | assumption | omega | (simp only [Ad]; done) | (simp only [Ad]; omega)) only [↓Ah, Ae, Ag, Ai, eq_self, forall_const, Nat.reduceLT, Nat.reduceEqDiff, Nat.reduceSub, Nat.reduceMul, Nat.reduceMod, Nat.reduceDiv, Nat.reducePow, UInt8.reduceToNat, Int.reduceEq, Int.reduceLT, Int.reduceLE, ↓reduceIte, Nat.reduceAdd, Int.reduceToNat, reduceCtorEq, Nat.reduceLeDiff, ↓Nr]
   exact AkL hok hl hp h20 hXn hX (es := es) ⟨ix.1, ix.2, hmnl⟩ (by rw [hlow gi (by omega)]; exact hgr) (by rw [hlow mi (by omega)]; exact hnm) (by rw [hlow mn hmnl]; exact hin) hml (hc.congr fun q => (Aes hperm q).symm) hK
theorem Am3 {l : List Nd} (hok : GOk l) (hl : l.length ≤ 100) (hp : ∀ n ∈ l, n.ps.length ≤ 1000) (h20 : ∀ n ∈ l, n.id.length = 20) {a b A B : List (List UInt8)} (hAn : A.Nodup) (hBn : B.Nodup) (hA : ∀ x ∈ A, x ∈ AL l) (hAr : ∀ x, x ∈ A ↔ Rc l a x) (hBr : ∀ x, x ∈ B ↔ Rc l b x) {gi mi mo mn : Nat} {H : List Ob}
  (ix : mi < gi ∧ gi < mo ∧ mo < mn) (hgr : H[gi]? = some (.obj 0 (.agg [.mp mi 0, .val (.map none)]))) (hnm : H[mi]? = some (.mpo (.arr 20) (AZ l))) (ho : H[mo]? = some (.mpo (.arr 20) (Ko B))) (hi : H[mn]? = some (.mpo (.arr 20) (Ko A))) {K : TV → List Ob → Prop}
  (hK : ∀ ids H' io v cp, AdU l (Ao2 l a b) ids → ids.length ≤ l.length → H'[io]? = some (.obj v (.arr ids.length 20 (ids.map idT))) → K (.tup [.os 20 io v [] 0 ids.length cp, .val .nilIface]) H') :
  vwp Tryd.prog Je (Yc Ff K) [(8, .op gi 0 []), (10, .mp mo 0), (11, .mp mn 0)] H := by
 have hmnl := Ap hi
 have hin : InS (some (.mpo (.arr 20) (Ko B))) B (Fp 0 (Ko B)) B.length := InS.new
 have hBl : (Ko B).length = B.length := by simp [Ko]
 simp -dsimp (disch := first | assumption | omega | (simp only [Ad]; done) | (simp only [Ad]; omega)) only [↓Ah, Ae, Ag, Ai, eq_self, forall_const, Nat.reduceLT, Nat.reduceEqDiff, Nat.reduceSub, Nat.reduceMul, Nat.reduceMod, Nat.reduceDiv, Nat.reducePow, UInt8.reduceToNat, Int.reduceEq, Int.reduceLT, Int.reduceLE, ↓reduceIte, Nat.reduceAdd, Int.reduceToNat, reduceCtorEq, Nat.reduceLeDiff, ↓VM, ho, hBl]
 refine BN (fun m e H' => ∃ (sn : List Nat) (D X : List (List UInt8)) (zs : List (Nat × List UInt8 × TV)) (cl : Nat), m = B.length - D.length ∧ Rng (Fp 0 (Ko B)) B sn D ∧ (∀ i, i < H.length → i ≠ mn → H'[i]? = H[i]?) ∧ H.length + 1 ≤ H'.length ∧ H'[H.length]? = some (.mit mo sn B.length) ∧ InS H'[mn]? X zs cl ∧ X.Nodup ∧ (∀ x, x ∈ X ↔ x ∈ A ∧ ¬ x ∈ D) ∧
  e = [(8, .op gi 0 []), (11, .mp mn 0), (42, .op H.length 0 [])]) B.length ?_ ?_
 ·refine ⟨[], [], A, Fp 0 (Ko A), A.length, by simp, Rng.start, fun i h _ => A7 h, by simp, by rw [Ro rfl]; rfl, ?_, hAn, by simp, by simp [forget, get]⟩
  rw [A7 hmnl, hi]; exact InS.new
 ·rintro m e H1 ⟨sn, D, X, zs, cl, rfl, hR, hlow, hlen, hit, hX, hXn, hXm, rfl⟩
  have ho1 : H1[mo]? = some (.mpo (.arr 20) (Ko B)) := by rw [hlow mo (by omega) (by omega)]; exact ho
  simp -dsimp (disch := first | assumption | omega | (simp only [Ad]; done) | (simp only [Ad]; omega)) only [↓Ah, Ae, Ag, Ai, eq_self, forall_const, Nat.reduceLT, Nat.reduceEqDiff, Nat.reduceSub, Nat.reduceMul, Nat.reduceMod, Nat.reduceDiv, Nat.reducePow, UInt8.reduceToNat, Int.reduceEq, Int.reduceLT, Int.reduceLE, ↓reduceIte, Nat.reduceAdd, Int.reduceToNat, reduceCtorEq, Nat.reduceLeDiff, ↓MX, hit, ho1, hBl]
  refine Ud rfl hin.2.2.2 (fun z hz hzn => ?_) (fun hall => ?_)
  ·obtain ⟨hR', hzD⟩ := hR.next hin hBn hz hzn
   have hRl := hR'.le
   rw [List.length_append, List.length_singleton] at hRl
   have hent := hin.ent (m := mo) (sn := sn) hz
   have hit2 : (H1.set H.length (.mit mo (sn ++ [z.1]) B.length))[H.length]? = some (.mit mo (sn ++ [z.1]) B.length) := List.getElem?_set_self (by omega)
   have hlow2 : ∀ i, i < H.length → i ≠ mn → (H1.set H.length (.mit mo (sn ++ [z.1]) B.length))[i]? = H[i]? := fun i h h2 => by rw [List.getElem?_set_ne (by omega)]; exact hlow i h h2
   have hlen2 : (H1.set H.length (.mit mo (sn ++ [z.1]) B.length)).length = H1.length := by simp
   have hX2 : InS (H1.set H.length (.mit mo (sn ++ [z.1]) B.length))[mn]? X zs cl := by rw [List.getElem?_set_ne (by omega)]; exact hX
   generalize H1.set H.length (.mit mo (sn ++ [z.1]) B.length) = H2 at *
   have ho2 : H2[mo]? = some (.mpo (.arr 20) (Ko B)) := by rw [hlow2 mo (by omega) (by omega)]; exact ho
   have hsi := hX2.stIn
   have hdl := hX2.del z.2.1
   simp -dsimp (disch := first | assumption | omega | (simp only [Ad]; done) | (simp only [Ad]; omega)) only [↓Ah, Ae, Ag, Ai, eq_self, forall_const, Nat.reduceLT, Nat.reduceEqDiff, Nat.reduceSub, Nat.reduceMul, Nat.reduceMod, Nat.reduceDiv, Nat.reducePow, UInt8.reduceToNat, Int.reduceEq, Int.reduceLT, Int.reduceLE, ↓reduceIte, Nat.reduceAdd, Int.reduceToNat, reduceCtorEq, Nat.reduceLeDiff, ↓MX, hit2, ho2, hBl, hent, hsi]
   refine AY (B.length - (D.length + 1)) (by omega) (by simp; omega) ⟨sn ++ [z.1], D ++ [z.2.1], X.erase z.2.1, zs.eraseIdx (Uy z.2.1 (zs.map (·.2))), cl, by simp, hR', fun i h h2 => ?_, by simp; omega, ?_, ?_, hXn.erase _, fun x => ?_, by simp [forget, get]⟩
   ·rw [A7 (by simp; omega), List.getElem?_set_ne (by omega)]; exact hlow2 i h h2
   ·rw [A7 (by simp; omega), List.getElem?_set_ne (by omega)]; exact hit2
   ·rw [A7 (by simp; omega), List.getElem?_set_self (by omega)]; exact hdl
   ·rw [hXn.mem_erase_iff, hXm x, List.mem_append, List.mem_singleton]
    constructor
    ·rintro ⟨h1, h2, h3⟩; exact ⟨h2, fun h => h.elim h3 h1⟩
    ·rintro ⟨h1, h2⟩; exact ⟨fun h => h2 (.inr h), h1, fun h => h2 (.inl h)⟩
  ·have hDB := hR.all hin hall
   simp -dsimp (disch := first | assumption | omega | (simp only [Ad]; done) | (simp only [Ad]; omega)) only [↓Ah, Ae, Ag, Ai, eq_self, forall_const, Nat.reduceLT, Nat.reduceEqDiff, Nat.reduceSub, Nat.reduceMul, Nat.reduceMod, Nat.reduceDiv, Nat.reducePow, UInt8.reduceToNat, Int.reduceEq, Int.reduceLT, Int.reduceLE, ↓reduceIte, Nat.reduceAdd, Int.reduceToNat, reduceCtorEq, Nat.reduceLeDiff]
   have hS : ∀ x, x ∈ X ↔ Ao2 l a b x := fun x => by
    rw [hXm x, hDB x, hAr x, hBr x]; rfl
   refine Ahv hok hl hp h20 hXn (fun x hx => hA x ((hXm x).1 hx).1) ⟨ix.1, by omega⟩ (by rw [hlow gi (by omega) (by omega)]; exact hgr) (by rw [hlow mi (by omega) (by omega)]; exact hnm) hX fun ids H' io v cp h1 h2 h3 => hK ids H' io v cp (h1.congr hS) h2 h3
theorem Amo (l : List Nd) (hl : l.length ≤ 100) (hp : ∀ n ∈ l, n.ps.length ≤ 1000) (h20 : ∀ n ∈ l, n.id.length = 20) (a b : List (List UInt8)) (ha : a.length ≤ 1000) (hb : b.length ≤ 1000) : MV Tryd.prog 7 [.sl 22 (l.map ndT), .sl 20 (a.map idT), .sl 20 (b.map idT)] (fun r =>
  (Abd l (a ++ b) → ∃ ids, r = .tup [.sl 20 (ids.map idT), .val .nilIface] ∧ AdU l (Ao2 l a b) ids ∧ ids.length ≤ l.length) ∧ (¬ Abd l (a ++ b) → r = .tup [.val (.slice none 0 0), .ifc 36 (i64 ((80 : Nat) : Int))])) := by
 refine Aq.toFreshV (Aac (by simp) ?_)
 simp -dsimp (disch := first | assumption | omega | (simp only [Ad]; done) | (simp only [Ad]; omega)) only [↓Ah, Ae, Ag, Ai, eq_self, forall_const, Nat.reduceLT, Nat.reduceEqDiff, Nat.reduceSub, Nat.reduceMul, Nat.reduceMod, Nat.reduceDiv, Nat.reducePow, UInt8.reduceToNat, Int.reduceEq, Int.reduceLT, Int.reduceLE, ↓reduceIte, Nat.reduceAdd, Int.reduceToNat, reduceCtorEq, Nat.reduceLeDiff, ↓RY, ↓LW]
 refine (Amh [a, b] (by simp) (by simp; omega)).lends (args' := [.sl 1 ([a, b].map fun l => .sl 20 (l.map idT))]) ?_ ?_
 ·simp -dsimp (disch := first | assumption | omega | (simp only [Ad]; done) | (simp only [Ad]; omega)) only [↓Ah, Ae, Ag, Ai, eq_self, forall_const, Nat.reduceLT, Nat.reduceEqDiff, Nat.reduceSub, Nat.reduceMul, Nat.reduceMod, Nat.reduceDiv, Nat.reducePow, UInt8.reduceToNat, Int.reduceEq, Int.reduceLT, Int.reduceLE, ↓reduceIte, Nat.reduceAdd, Int.reduceToNat, reduceCtorEq, Nat.reduceLeDiff, AdF]
 rintro x rfl
 have hfl : [a, b].flatten = a ++ b := by simp
 rw [hfl]
 simp -dsimp (disch := first | assumption | omega | (simp only [Ad]; done) | (simp only [Ad]; omega)) only [↓Ah, Ae, Ag, Ai, eq_self, forall_const, Nat.reduceLT, Nat.reduceEqDiff, Nat.reduceSub, Nat.reduceMul, Nat.reduceMod, Nat.reduceDiv, Nat.reducePow, UInt8.reduceToNat, Int.reduceEq, Int.reduceLT, Int.reduceLE, ↓reduceIte, Nat.reduceAdd, Int.reduceToNat, reduceCtorEq, Nat.reduceLeDiff, ↓RY, ↓LW]
 refine BQ (ofH l (by omega) hp (a ++ b) (by simp; omega) (fun hok T => ?_) (fun hno g H' => ?_))
 ·have hin : ∀ x ∈ a ++ b, x ∈ AL l := fun x hx => MR.1 (List.all_eq_true.1 hok.2 x hx)
  have hina : ∀ x ∈ a, x ∈ AL l := fun x hx => hin x (List.mem_append_left _ hx)
  have hinb : ∀ x ∈ b, x ∈ AL l := fun x hx => hin x (List.mem_append_right _ hx)
  simp -dsimp (disch := first | assumption | omega | (simp only [Ad]; done) | (simp only [Ad]; omega)) only [↓Ah, Ae, Ag, Ai, eq_self, forall_const, Nat.reduceLT, Nat.reduceEqDiff, Nat.reduceSub, Nat.reduceMul, Nat.reduceMod, Nat.reduceDiv, Nat.reducePow, UInt8.reduceToNat, Int.reduceEq, Int.reduceLT, Int.reduceLE, ↓reduceIte, Nat.reduceAdd, Int.reduceToNat, reduceCtorEq, Nat.reduceLeDiff, ↓LG, ↓VN]
  refine BQ (UU hok.1 (by omega) hp (S := b) (by omega) hinb (gi := 2) (mi := 1) rfl rfl rfl (fun K k0 k1 => AdQ (by omega) k0 k1) (fun B T1 hndB hmB => ?_))
  simp -dsimp (disch := first | assumption | omega | (simp only [Ad]; done) | (simp only [Ad]; omega)) only [↓Ah, Ae, Ag, Ai, eq_self, forall_const, Nat.reduceLT, Nat.reduceEqDiff, Nat.reduceSub, Nat.reduceMul, Nat.reduceMod, Nat.reduceDiv, Nat.reducePow, UInt8.reduceToNat, Int.reduceEq, Int.reduceLT, Int.reduceLE, ↓reduceIte, Nat.reduceAdd, Int.reduceToNat, reduceCtorEq, Nat.reduceLeDiff, ↓Vt]
  refine BQ (UU hok.1 (by omega) hp (S := a) (by omega) hina (gi := 2) (mi := 1) rfl rfl rfl (fun K k0 k1 => AdQ (by omega) k0 k1) (fun A T2 hndA hmA => ?_))
  simp -dsimp (disch := first | assumption | omega | (simp only [Ad]; done) | (simp only [Ad]; omega)) only [↓Ah, Ae, Ag, Ai, eq_self, forall_const, Nat.reduceLT, Nat.reduceEqDiff, Nat.reduceSub, Nat.reduceMul, Nat.reduceMod, Nat.reduceDiv, Nat.reducePow, UInt8.reduceToNat, Int.reduceEq, Int.reduceLT, Int.reduceLE, ↓reduceIte, Nat.reduceAdd, Int.reduceToNat, reduceCtorEq, Nat.reduceLeDiff]
  refine Am3 hok.1 hl hp h20 (a := a) (b := b) hndA hndB (fun x hx => Rc.there hok.1.1 hina ((hmA x).1 hx)) hmA hmB (gi := 2) (mi := 1) ?_ rfl rfl ?_ ?_ fun ids H' io v cp h1 h2 h3 => ?_
  ·omega
  ·simp only [List.getElem?_cons_succ]
   rw [List.append_assoc, List.getElem?_append_right (Nat.le_refl _)]; simp
  ·simp only [List.getElem?_cons_succ]
   rw [List.getElem?_append_right (by simp)]; simp
  ·have hpt : (ids.map idT).take ids.length = ids.map idT := EX rfl
   simp -dsimp (disch := first | assumption | omega | (simp only [Ad]; done) | (simp only [Ad]; omega)) only [↓Ah, Ae, Ag, Ai, eq_self, forall_const, Nat.reduceLT, Nat.reduceEqDiff, Nat.reduceSub, Nat.reduceMul, Nat.reduceMod, Nat.reduceDiv, Nat.reducePow, UInt8.reduceToNat, Int.reduceEq, Int.reduceLT, Int.reduceLE, ↓reduceIte, Nat.reduceAdd, Int.reduceToNat, reduceCtorEq, Nat.reduceLeDiff, h3, hpt, Zh]
   exact ⟨fun _ => ⟨ids, rfl, h1, h2⟩, fun h => absurd hok h⟩
 ·simp -dsimp (disch := first | assumption | omega | (simp only [Ad]; done) | (simp only [Ad]; omega)) only [↓Ah, Ae, Ag, Ai, eq_self, forall_const, Nat.reduceLT, Nat.reduceEqDiff, Nat.reduceSub, Nat.reduceMul, Nat.reduceMod, Nat.reduceDiv, Nat.reducePow, UInt8.reduceToNat, Int.reduceEq, Int.reduceLT, Int.reduceLE, ↓reduceIte, Nat.reduceAdd, Int.reduceToNat, reduceCtorEq, Nat.reduceLeDiff, ↓LG, ↓Tm]
  exact ⟨fun h => absurd h hno, fun _ => trivial⟩
end Go.Proofs.YtingoaihnlhiaaaDoor


namespace Go.Proofs.YtingoaihnlhiaaaDoor
open Go.RowKit
variable [Bc]
set_option linter.unusedSectionVars false
set_option linter.unusedVariables false
set_option linter.unusedSimpArgs false

end Go.Proofs.YtingoaihnlhiaaaDoor


namespace Go.Proofs.YtingoaihnlhiaaaDoor
open Go.RowKit
variable [Bc]
set_option linter.unusedSectionVars false
set_option linter.unusedVariables false
set_option linter.unusedSimpArgs false

end Go.Proofs.YtingoaihnlhiaaaDoor


namespace Go.Proofs.YtingoaihnlhiaaaDoor
open Go.RowKit
variable [Bc]
set_option linter.unusedSectionVars false
set_option linter.unusedVariables false
set_option linter.unusedSimpArgs false

end Go.Proofs.YtingoaihnlhiaaaDoor


namespace Go.Proofs.YtingoaihnlhiaaaDoor
open Go.RowKit Go.Extern.Stop Go.Stop Go.Extern
variable [Bc]
set_option linter.unusedSectionVars false


theorem AcY (t : Addr) (w : World) : (ReflectliteValue.unpack (.iface 79 (.pointer (some t)))).run Tryd.prog w
  = .ok (.agg #[.pointer (some ⟨2, 79, none⟩), .pointer (some ⟨w.heap.size, 0, none⟩), .int .u64 150]) (w.alloc (.cells #[.pointer (some t)] 79)) := by kernel_rfl
theorem Aiq (a : Addr) (w : World) : (ReflectliteValue.methodAny (ReflectliteValue.valueError "reflectlite.Value.Type" 0) (fun t _ _ _ => ReflectliteType.toType t) #[.agg #[.pointer (some ⟨2, 79, none⟩), .pointer (some a), .int .u64 150]]).run Tryd.prog w
  = .ok (.iface 118 (.agg #[.pointer (some ⟨2, 79, none⟩)])) w := by kernel_rfl
theorem AcF (h : Value) (w : World) : (Go.method 288 118 (.agg #[h]) "Kind").run Tryd.prog w = .ok (89, h) w := by kernel_rfl
theorem AiT (w : World) : ((ReflectliteType.abiMethod fun t => (fun a : Nat => Value.int IntKind.u8 (a : Int)) <$> Rtype.kind t) #[.pointer (some ⟨2, 79, none⟩)]).run Tryd.prog w = .ok (.int .u8 22) w := by kernel_rfl
theorem AkV (w : World) : ((ReflectliteType.abiMethod fun t => (fun a : Nat => Value.int IntKind.u8 (a : Int)) <$> Rtype.kind t) #[.pointer (some ⟨2, 36, none⟩)]).run Tryd.prog w = .ok (.int .u8 2) w := by kernel_rfl

theorem rlm (z : Sem Value) (f : TypeId → Addr → Nat → Nat → Sem Value) (v : Value) :
  ReflectliteValue.method z f #[v] = (do match ← ReflectliteValue.parts v with | none => z | some (t, a, fl) => f t a fl (fl % 32)) := rfl
theorem Acw (a : Addr) (w : World) : (ReflectliteValue.parts (.agg #[.pointer (some ⟨2, 79, none⟩), .pointer (some a), .int .u64 150])).run Tryd.prog w = .ok (some (79, a, 150)) w := by kernel_rfl
/-- (Value).IsNil at the Value of a **p.E that is not nil. -/
theorem AgY (a p : Addr) (W : World) (ha : W.cell? a = some (.pointer (some p))) :
  (ReflectliteValue.method (ReflectliteValue.valueError "reflectlite.Value.IsNil" 0) ReflectliteValue.isNil #[.agg #[.pointer (some ⟨2, 79, none⟩), .pointer (some a), .int .u64 150]]).run Tryd.prog W = .ok (.bool false) W := by
 rw [rlm]
 simp only [Sem.run_bind, Acw, Result.andThen]
 simp [ReflectliteValue.isNil, loadVar, isAgg, underlying, Tryd.underlying79, ha, Result.andThen]

theorem AbR (h : Value) (w : World) : (Go.method 288 118 (.agg #[h]) "Elem").run Tryd.prog w = .ok (108, .agg #[h]) w := by kernel_rfl
theorem WV (h : Value) (w : World) : (Go.method 288 118 (.agg #[h]) "Implements").run Tryd.prog w = .ok (109, .agg #[h]) w := by kernel_rfl
theorem Uj (h : Value) (w : World) : (Go.method 288 118 (.agg #[h]) "AssignableTo").run Tryd.prog w = .ok (106, .agg #[h]) w := by kernel_rfl
theorem Ai8 (w : World) : (ReflectliteType.method ReflectliteType.elem #[.agg #[.pointer (some ⟨2, 79, none⟩)]]).run Tryd.prog w = .ok (.iface 118 (.agg #[.pointer (some ⟨2, 36, none⟩)])) w := by kernel_rfl
theorem Z4 (w : World) : (ReflectliteType.relation "Implements" ReflectliteType.implements_ #[.agg #[.pointer (some ⟨2, 36, none⟩)], .iface 118 (.agg #[.pointer (some ⟨2, 26, none⟩)])]).run Tryd.prog w = .ok (.bool true) w := by kernel_rfl
theorem Afu (v : Value) (w : World) : (ReflectliteType.typeOf #[.iface 36 v]).run Tryd.prog w = .ok (.iface 118 (.agg #[.pointer (some ⟨2, 36, none⟩)])) w := by kernel_rfl
theorem Aaa (w : World) : (ReflectliteType.relation "AssignableTo" ReflectliteType.assignableTo #[.agg #[.pointer (some ⟨2, 36, none⟩)], .iface 118 (.agg #[.pointer (some ⟨2, 36, none⟩)])]).run Tryd.prog w = .ok (.bool true) w := by kernel_rfl
theorem AdN (e : Int) (w : World) : (ReflectliteValue.unpack (.iface 36 (.int .i64 e))).run Tryd.prog w
  = .ok (.agg #[.pointer (some ⟨2, 36, none⟩), .pointer (some ⟨w.heap.size, 0, none⟩), .int .u64 130]) (w.alloc (.cells #[.int .i64 e] 36)) := by kernel_rfl

theorem Afe (w : World) : (Rtype.elem? 79).run Tryd.prog w = .ok (some 36) w := by kernel_rfl
theorem Aqv (p : Addr) (w : World) : (ReflectliteValue.mk 36 p ReflectliteValue.flagAddr).run Tryd.prog w = .ok (.agg #[.pointer (some ⟨2, 36, none⟩), .pointer (some p), .int .u64 386]) w := by kernel_rfl
/-- (Value).Elem at the Value of a **p.E that is not nil: the Value of the *p.E variable that it points to, addressable. -/
theorem Ah9 (a p : Addr) (W : World) (ha : W.cell? a = some (.pointer (some p))) :
  (ReflectliteValue.method (ReflectliteValue.valueError "reflectlite.Value.Elem" 0) ReflectliteValue.elem #[.agg #[.pointer (some ⟨2, 79, none⟩), .pointer (some a), .int .u64 150]]).run Tryd.prog W
   = .ok (.agg #[.pointer (some ⟨2, 36, none⟩), .pointer (some p), .int .u64 386]) W := by
 rw [rlm]
 simp only [Sem.run_bind, Acw, Result.andThen]
 simp [ReflectliteValue.elem, loadVar, isAgg, underlying, Tryd.underlying79, ha, Result.andThen, Afe, Aqv]
theorem rls (v x : Value) : ReflectliteValue.set #[v, x] = (do
  let (some (dst, a, fl), some (src, b, _)) := (← ReflectliteValue.parts v, ← ReflectliteValue.parts x)
   | unsupported (.noEntry "extern/(internal/reflectlite.Value).Set.zeroValue")
  if fl / ReflectliteValue.flagAddr % 2 == 0 then unsupported (.noEntry "extern/(internal/reflectlite.Value).Set.unaddressable")
  let val ← loadVar src b
  if ← Rtype.directlyAssignable dst src then storeVar dst a val
  else if ← Rtype.implements dst src then
   if (← Rtype.kind src) == 20 then
    match val with
    | .nilIface => unsupported (.noEntry "extern/reflectlite: a nil value of one interface type handed on as a value of another")
    | _ => storeVar dst a val
   else storeVar dst a (.iface src val)
  else panicString ("reflectlite.Set: value of type " ++ (← Rtype.spelt src) ++ " is not assignable to type " ++ (← Rtype.spelt dst))
  pure (.tuple #[])) := rfl
theorem Ae8 (a : Addr) (w : World) : (ReflectliteValue.parts (.agg #[.pointer (some ⟨2, 36, none⟩), .pointer (some a), .int .u64 386])).run Tryd.prog w = .ok (some (36, a, 386)) w := by kernel_rfl
theorem Ahr (a : Addr) (w : World) : (ReflectliteValue.parts (.agg #[.pointer (some ⟨2, 36, none⟩), .pointer (some a), .int .u64 130])).run Tryd.prog w = .ok (some (36, a, 130)) w := by kernel_rfl
theorem Aey (w : World) : (Rtype.directlyAssignable 36 36).run Tryd.prog w = .ok true w := by kernel_rfl
/-- (Value).Set: the *p.E variable at 'ta' gets what the Value's own variable 'b' holds. -/
theorem AnE (ta b : Addr) (e : Int) (old : Value) (W : World) (hb : W.cell? b = some (.int .i64 e)) (ht : W.cell? ta = some old) (hf : W.frozen? ta = false) :
  (ReflectliteValue.set #[.agg #[.pointer (some ⟨2, 36, none⟩), .pointer (some ta), .int .u64 386], .agg #[.pointer (some ⟨2, 36, none⟩), .pointer (some b), .int .u64 130]]).run Tryd.prog W
   = .ok (.tuple #[]) (W.setCell ta (.int .i64 e)) := by
 rw [rls]
 simp only [Sem.run_bind, Ae8, Ahr, Result.andThen]
 simp [ReflectliteValue.flagAddr, loadVar, isAgg, underlying, Tryd.underlying36, hb, Result.andThen, Aey, storeVar, Value.cells, storeCells, Addr.add]
 rw [run_store Tryd.prog W ta _ _ (by rfl)]
 simp [ht, hf]

set_option maxHeartbeats 4000000 in
theorem Aov (e : Int) (t : Addr) (old : Value) (w : World) (hg : w.cell? ⟨0, 0, none⟩ = some (.iface 118 (.agg #[.pointer (some ⟨2, 26, none⟩)]))) (ht0 : w.cell? t = some old) (hf0 : w.frozen? t = false) :
  Calls Tryd.prog 31 #[.iface 36 (.int .i64 e), .iface 79 (.pointer (some t))] w fun ev w' => ev = .returned (.bool true) ∧ w' = ((((w.alloc (.cells #[.pointer (some t)] 79)).alloc (.cells #[.pointer (some ⟨2, 79, none⟩), .pointer (some ⟨w.heap.size, 0, none⟩), .int .u64 150] 100)).alloc (.cells #[.pointer (some ⟨2, 79, none⟩), .pointer (some ⟨w.heap.size, 0, none⟩), .int .u64 150] 100)).alloc (.cells #[.int .i64 e] 36)).setCell t (.int .i64 e) := by
 have h6 := @run_callFunc_extern Tryd.prog 41 _ (fun args => ReflectliteValue.unpack (args.getD 0 (.tuple #[]))) Tryd.func41 (by kernel_rfl) (by kernel_rfl) (by kernel_rfl) (by kernel_rfl)
 have h7 := @run_callFunc_extern Tryd.prog 42 _ (ReflectliteValue.methodAny (ReflectliteValue.valueError "reflectlite.Value.Type" 0) (fun t _ _ _ => ReflectliteType.toType t)) Tryd.func42 (by kernel_rfl) (by kernel_rfl) (by kernel_rfl) (by kernel_rfl)
 have h8 := @run_callFunc_extern Tryd.prog 43 _ (ReflectliteValue.method (ReflectliteValue.valueError "reflectlite.Value.IsNil" 0) ReflectliteValue.isNil) Tryd.func43 (by kernel_rfl) (by kernel_rfl) (by kernel_rfl) (by kernel_rfl)
 have h27 := @run_callFunc_extern Tryd.prog 89 _ (ReflectliteType.abiMethod fun t => do pure (.int .u8 (← Rtype.kind t))) Tryd.func89 (by kernel_rfl) (by kernel_rfl) (by kernel_rfl) (by kernel_rfl)
 have h37 := @run_callFunc_extern Tryd.prog 108 _ (ReflectliteType.method ReflectliteType.elem) Tryd.func108 (by kernel_rfl) (by kernel_rfl) (by kernel_rfl) (by kernel_rfl)
 have h38 := @run_callFunc_extern Tryd.prog 109 _ (ReflectliteType.relation "Implements" ReflectliteType.implements_) Tryd.func109 (by kernel_rfl) (by kernel_rfl) (by kernel_rfl) (by kernel_rfl)
 have h10 := @run_callFunc_extern Tryd.prog 52 _ ReflectliteType.typeOf Tryd.func52 (by kernel_rfl) (by kernel_rfl) (by kernel_rfl) (by kernel_rfl)
 have h35 := @run_callFunc_extern Tryd.prog 106 _ (ReflectliteType.relation "AssignableTo" ReflectliteType.assignableTo) Tryd.func106 (by kernel_rfl) (by kernel_rfl) (by kernel_rfl) (by kernel_rfl)
 have h11 := @run_callFunc_extern Tryd.prog 53 _ (ReflectliteValue.method (ReflectliteValue.valueError "reflectlite.Value.Elem" 0) ReflectliteValue.elem) Tryd.func53 (by kernel_rfl) (by kernel_rfl) (by kernel_rfl) (by kernel_rfl)
 have h12 := @run_callFunc_extern Tryd.prog 54 _ ReflectliteValue.set Tryd.func54 (by kernel_rfl) (by kernel_rfl) (by kernel_rfl) (by kernel_rfl)
 have tO := Afu
 have mA := Uj
 have a25 := Aaa
 have v25 := AdN
 have f6 := AcY
 have f7 := Aiq
 have mK := AcF
 have mE := AbR
 have mI := WV
 have k27 := AiT
 have k25 := AkV
 have e27 := Ai8
 have i25 := Z4
 have n8 := AgY ⟨w.heap.size, 0, none⟩ t ((w.alloc (.cells #[.pointer (some t)] 79)).alloc (.cells #[.pointer (some ⟨2, 79, none⟩), .pointer (some ⟨w.heap.size, 0, none⟩), .int .u64 150] 100)) (by simp)
 have hlt : 0 < w.heap.size := by
  rcases Nat.lt_or_ge 0 w.heap.size with h | h
  ·exact h
  ·simp [World.cell?, Array.getElem?_eq_none h] at hg
 have hg2 : ((w.alloc (.cells #[.pointer (some t)] 79)).alloc (.cells #[.pointer (some ⟨2, 79, none⟩), .pointer (some ⟨w.heap.size, 0, none⟩), .int .u64 150] 100)).cell? ⟨0, 0, none⟩ = some (.iface 118 (.agg #[.pointer (some ⟨2, 26, none⟩)])) := by
  rw [World.cell?_alloc_lt _ _ ⟨0, 0, none⟩ (by simp), World.cell?_alloc_lt _ _ ⟨0, 0, none⟩ hlt]; exact hg
 have htl : t.block < w.heap.size := by
  rcases Nat.lt_or_ge t.block w.heap.size with h | h
  ·exact h
  ·simp [World.cell?, Array.getElem?_eq_none h] at ht0
 have el := Ah9 ⟨w.heap.size, 0, none⟩ t (((w.alloc (.cells #[.pointer (some t)] 79)).alloc (.cells #[.pointer (some ⟨2, 79, none⟩), .pointer (some ⟨w.heap.size, 0, none⟩), .int .u64 150] 100)).alloc (.cells #[.pointer (some ⟨2, 79, none⟩), .pointer (some ⟨w.heap.size, 0, none⟩), .int .u64 150] 100)) (by rw [World.cell?_alloc_lt _ _ ⟨w.heap.size, 0, none⟩ (by simp; omega)]; simp)
 have st := AnE t ⟨w.heap.size + 1 + 1 + 1, 0, none⟩ e old ((((w.alloc (.cells #[.pointer (some t)] 79)).alloc (.cells #[.pointer (some ⟨2, 79, none⟩), .pointer (some ⟨w.heap.size, 0, none⟩), .int .u64 150] 100)).alloc (.cells #[.pointer (some ⟨2, 79, none⟩), .pointer (some ⟨w.heap.size, 0, none⟩), .int .u64 150] 100)).alloc (.cells #[.int .i64 e] 36))
  (by rw [World.cell?_alloc_at _ _ _ _ (by simp)]; rfl)
  (by rw [World.cell?_alloc_lt _ _ t (by simp; omega), World.cell?_alloc_lt _ _ t (by simp; omega), World.cell?_alloc_lt _ _ t (by simp; omega), World.cell?_alloc_lt _ _ t htl]; exact ht0)
  (by rw [World.frozen?_alloc_old _ _ t (by simp; omega), World.frozen?_alloc_old _ _ t (by simp; omega), World.frozen?_alloc_old _ _ t (by simp; omega), World.frozen?_alloc_old _ _ t (Nat.ne_of_lt htl)]; exact hf0)
 go_enter Tryd.func31, Tryd.ntmps31
 go_wp2
 refine wp_loop_rounds 1 ?_
 rw [rounds_succ]
 go_wp2
 go_ret
 exact ⟨rfl, rfl⟩
end Go.Proofs.YtingoaihnlhiaaaDoor


namespace Go.Proofs.YtingoaihnlhiaaaDoor
variable [Bc]
set_option linter.unusedSectionVars false
set_option linter.unusedVariables false
set_option linter.defProp false
set_option maxRecDepth 100000

def AaO : Af := .seq (.ops [po_ 2 (.mov (ci_ 0))] [0])
 (.seq (.ops [so_ 3 (.alloc (.val (.int .i64 ((0 : Nat) : Int))))] [0, 3])
 (.seq (.block 0 (.seq (.ops [mv_ 5 0,
  po_ 6 (.eqN 1 (.t 5) (.c .nilIface) false),
  mv_ 4 6] [0, 3, 4])
 (.cond (.t 4)
 (.seq (.ops [po_ 2 (.mov (ci_ 0))] [2])
  (.ret))
 (.seq (.ops [mv_ 8 0,
   po_ 9 (.iface 79 (.t 3)),
   so_ 10 (.call 31 [.t 8, .t 9]),
   mv_ 7 10] [3, 7])
  (.cond (.t 7)
  (.seq (.ops [po_ 11 (.load false 1 (.t 3)),
    mv_ 2 11] [2])
   (.ret))
  (.skip))))))
 (.seq (.ops [po_ 2 (.mov (.c (.int .i64 (-1))))] [2])
 (.ret))))
def AaB : List VR := [.tmp 2]
theorem Afa : Tryd.f12.body.bind (trC Tryd.prog Tryd.f12.ntmps) = some (er AaO) := by kernel_rfl
theorem AeC : trR Tryd.prog Tryd.f12.results.toList = some AaB := by kernel_rfl
def Ab6 := Ac AaO.eq_1
theorem Ack {K : TV → Prop} {e : Env} {H : List Ob} : res AaB e H K = res [.tmp 2] e H K := Aa rfl
def Yp := (And.intro @Ab6 @Ack)
def ZF := ET 12 Tryd.func12 Afa AeC rfl

end Go.Proofs.YtingoaihnlhiaaaDoor


namespace Go.Proofs.YtingoaihnlhiaaaDoor
open Go.RowKit
variable [Bc] [BX]
set_option linter.unusedSectionVars false
set_option linter.unusedVariables false
set_option linter.unusedSimpArgs false

theorem RF.refl {F : Nat → Prop} {w : World} (h : ∀ b, F b → b < w.heap.size) : RF F w F w := ⟨rfl, rfl, rfl, Nat.le_refl _, fun _ _ => rfl, fun _ h => h, fun _ _ h => h, h⟩
theorem RF.alloc {F F' : Nat → Prop} {w w' : World} (h : RF F w F' w') (o : Obj) : RF F w F' (w'.alloc o) :=
 ⟨h.os, h.tape, h.output, by have := h.size; simp; omega, fun b hb => (DI w' o (Nat.lt_of_lt_of_le hb h.size)).trans (h.same b hb), h.keepF, h.oldF, fun b hb => by have := h.ltF b hb; simp; omega⟩

/-- An error of the program's. -/
abbrev eno (n : Int) : TV := .ifc 36 (i64 n)

theorem Alr {n : Int} {id ver : Nat} {p : List (Nat × Nat)} {x x' : TV} {H : List Ob} {K : TV → List Ob → Prop} (ho : H[id]? = some (.obj ver x)) (hs2 : U4 p x (i64 n) = some x') (hk : K (tb true) (H.set id (.obj ver x'))) :
  Aq Tryd.prog 31 [eno n, .ifc 79 (.op id ver p)] H K := by
 intro β F w vs hs hv
 obtain ⟨u, us, rfl, h1, h2⟩ := Bd.cons.1 hv
 obtain ⟨u2, us2, rfl, h3, h4⟩ := Bd.cons.1 h2
 rw [Bd.nil] at h4; subst h4
 -- the two arguments
 have e1 : u = .iface 36 (.int .i64 n) := by
  rcases h1 with h | h | ⟨xs0, h, rfl⟩
  ·cases h
  ·cases h
  ·rw [Aj] at h
   obtain ⟨v, rfl, vs, h, rfl⟩ := h
   rw [Aj] at h
   obtain ⟨rfl, _⟩ := h
   rfl
 obtain ⟨b, o, hbo, rfl⟩ : ∃ b o, β id ver = some (b, o) ∧ u2 = .iface 79 (.pointer (some ⟨b, o + EQ p, none⟩)) := by
  rcases h3 with h | h | ⟨xs0, h, rfl⟩
  ·cases h
  ·cases h
  ·rw [Aj] at h
   obtain ⟨v, rfl, vs, h, rfl⟩ := h
   rw [Aj] at h
   obtain ⟨_, b, o, hb, rfl⟩ := h
   exact ⟨b, o, hb, rfl⟩
 subst e1
 have hgl := hs.glob.at BX.k
 have hg : w.cell? ⟨0, 0, none⟩ = some (.iface 118 (.agg #[.pointer (some ⟨2, 26, none⟩)])) := hgl 0 _ rfl
 have hrow : ∀ c w, Aj c w (i64 n) [.int .i64 n] := fun c w => by rw [Aj]; exact ⟨rfl, rfl⟩
 obtain ⟨_, _, ht⟩ := hs.store ho hbo hs2 (hrow _ _)
 obtain ⟨t1, t2⟩ := ht 0 (by simp)
 obtain ⟨old, hold⟩ := Option.isSome_iff_exists.1 t1
 refine (Aov n ⟨b, o + EQ p, none⟩ old w hg hold t2).mono ?_
 rintro e w' ⟨rfl, rfl⟩
 have hst := ((((RF.refl (F := F) hs.lt).alloc (.cells #[.pointer (some ⟨b, o + EQ p, none⟩)] 79)).alloc (.cells #[.pointer (some ⟨2, 79, none⟩), .pointer (some ⟨w.heap.size, 0, none⟩), .int .u64 150] 100)).alloc (.cells #[.pointer (some ⟨2, 79, none⟩), .pointer (some ⟨w.heap.size, 0, none⟩), .int .u64 150] 100)).alloc (.cells #[.int .i64 n] 36)
 obtain ⟨k1, k2, _⟩ := (hst.sim hs).store ho hbo hs2 (hrow _ _)
 exact ⟨_, tb true, β, _, F, rfl, hk, k1, hst.later.trans k2, Rep.of_val⟩

/-- api.Tell of an error of the program's, and of none. -/
theorem Aq0 {n : Int} : Gh Tryd.prog 12 [eno n] (fun x => x = i64 n) := by
 refine Aq.toPureV (ZF (by simp) ?_)
 simp -dsimp (disch := first | assumption | omega) only [↓Ah, Ae, Ag, Ai, eq_self, forall_const, Nat.reduceLT, Nat.reduceEqDiff, Nat.reduceSub, Nat.reduceMul, Nat.reduceMod, Nat.reduceDiv, Nat.reducePow, UInt8.reduceToNat, Int.reduceEq, Int.reduceLT, Int.reduceLE, ↓reduceIte, Nat.reduceAdd, Int.reduceToNat, reduceCtorEq, Nat.reduceLeDiff, ↓Yp]
 refine Alr (x := i64 ((0 : Nat) : Int)) (x' := i64 n) rfl (by rw [Aei]; rfl) ?_
 simp -dsimp (disch := first | assumption | omega) only [↓Ah, Ae, Ag, Ai, eq_self, forall_const, Nat.reduceLT, Nat.reduceEqDiff, Nat.reduceSub, Nat.reduceMul, Nat.reduceMod, Nat.reduceDiv, Nat.reducePow, UInt8.reduceToNat, Int.reduceEq, Int.reduceLT, Int.reduceLE, ↓reduceIte, Nat.reduceAdd, Int.reduceToNat, reduceCtorEq, Nat.reduceLeDiff, ↓Yp]
theorem AkN : Gh Tryd.prog 12 [.val .nilIface] (fun x => x = i64 ((0 : Nat) : Int)) := by
 refine Aq.toPureV (ZF (by simp) ?_)
 simp -dsimp (disch := first | assumption | omega) only [↓Ah, Ae, Ag, Ai, eq_self, forall_const, Nat.reduceLT, Nat.reduceEqDiff, Nat.reduceSub, Nat.reduceMul, Nat.reduceMod, Nat.reduceDiv, Nat.reducePow, UInt8.reduceToNat, Int.reduceEq, Int.reduceLT, Int.reduceLE, ↓reduceIte, Nat.reduceAdd, Int.reduceToNat, reduceCtorEq, Nat.reduceLeDiff, ↓Yp]
end Go.Proofs.YtingoaihnlhiaaaDoor


namespace Go.Proofs.YtingoaihnlhiaaaDoor
open Go.RowKit
variable [Bc]
set_option linter.unusedSectionVars false
set_option linter.unusedVariables false
set_option linter.unusedSimpArgs false

set_option maxRecDepth 100000 in
/-- An id that came in. -/
theorem Xd {t : TypeId} (ht : Tryd.prog.underlying t = some (.array 20 5)) (hn : Tryd.prog.cellsOf t = 20) : Np Tryd.prog t idT (fun l => l.length = 20) :=
 O6 (AbY ht (k := 1) (by kernel_rfl) (by rw [hn]) (Agx Tryd.underlying5) (fun _ _ => rfl)) fun l h => ⟨l, by rw [AP], h.1⟩
set_option maxRecDepth 100000 in
/-- Nodes that came in. -/
theorem AcL : Np Tryd.prog 22 (fun l : List Nd => .sl 22 (l.map ndT)) (fun l => ∀ n ∈ l, n.id.length = 20) := by
 refine O6 (YA (k := 22) (B := Tryd.prog.bytesOf 51) Tryd.underlying22 (by kernel_rfl) rfl (ok := fun n : Nd => n.id.length = 20) (f := ndT) ?_ (fun a _ => Af2) (by decide)) fun l h => ⟨l, rfl, h.1⟩
 refine O6 (Abe Tryd.underlying51 (by kernel_rfl) (SV (off := 0) (n := 20) rfl (by kernel_rfl) (Xd Tryd.underlying40 (by kernel_rfl)) (SV (off := 20) (n := 1) rfl (by kernel_rfl)
  (YA (k := 20) (B := Tryd.prog.bytesOf 40) Tryd.underlying23 (by kernel_rfl) rfl (Xd Tryd.underlying40 (by kernel_rfl)) (fun a _ => Be) (by decide))
  (SV (off := 21) (n := 1) rfl (by kernel_rfl) (Afk Tryd.underlying2) AcR)))) fun x h => ?_
 obtain ⟨i, p, t, u⟩ := x
 refine ⟨⟨i, p, t⟩, ?_, h.1⟩
 rw [Bf]
 simp only [AP]
end Go.Proofs.YtingoaihnlhiaaaDoor


namespace Go.Proofs.YtingoaihnlhiaaaDoor
open Go.RowKit
variable [Bc] [BX]
set_option linter.unusedSectionVars false
set_option linter.unusedVariables false
set_option linter.unusedSimpArgs false

theorem Ah3 {l : List Nd} (h : Aig l = true) : l.length ≤ 40 ∧ ∀ n ∈ l, n.ps.length ≤ 40 := by
 unfold Aig at h
 rw [Bool.and_eq_true, decide_eq_true_eq, List.all_eq_true] at h
 exact ⟨h.1, fun n hn => by simpa using h.2 n hn⟩
/-- Each once, by its bytes, of what is asked. -/
theorem Ah8 (s : List (List UInt8)) : ∃ t, SD t ∧ ∀ z, z ∈ t ↔ z ∈ s := ⟨dd (IJ s), Aia (XK s), fun z => by rw [Aau, ZN]⟩
end Go.Proofs.YtingoaihnlhiaaaDoor


namespace Go.Proofs.YtingoaihnlhiaaaDoor
open Go.RowKit
variable [Bc] [BX]
set_option linter.unusedSectionVars false
set_option linter.unusedVariables false
set_option linter.unusedSimpArgs false

end Go.Proofs.YtingoaihnlhiaaaDoor


namespace Go.Proofs.YtingoaihnlhiaaaDoor
open Go.RowKit
variable [Bc]
set_option linter.unusedSectionVars false
set_option linter.unusedVariables false
set_option linter.unusedSimpArgs false

theorem EN {p : Prop} : dec p = true ↔ p := by unfold dec; simp
theorem Rc.anti {l : List Nd} (hok : GOk l) {x y : List UInt8} (hx : x ∈ AL l) (h : Rc l [x] y) (k : Rc l [y] x) : y = x := by
 rcases Rc.first h with e | h
 ·exact e
 ·have h2 : Rc l (pOf l x) x := h.trans k
  obtain ⟨n, hn, rfl⟩ := List.mem_map.1 hx
  rw [Xm hok.1.nodup hn] at h2
  exact absurd ⟨n, hn, h2⟩ hok.2
theorem Ad9 {l : List Nd} {t : List (List UInt8)} {x : List UInt8} (h : x ∈ VP l t) : x ∈ t := (List.mem_filter.1 h).1
theorem Afs {l : List Nd} {t : List (List UInt8)} {x y : List UInt8} (h : x ∈ VP l t) (hy : y ∈ t) (hne : y ≠ x) : ¬ Rc l [y] x := fun hr => by
 have := (List.mem_filter.1 h).2
 have h2 : dec (AeH l t x) = true := EN.2 ⟨y, hy, hne, hr⟩
 rw [h2] at this; cases this
/-- Whatever is among some is reached from a VP one. -/
theorem AkR {l : List Nd} (hok : GOk l) {t : List (List UInt8)} (ht : ∀ x ∈ t, x ∈ AL l) : ∀ (n : Nat) (z : List UInt8), z ∈ t → (t.filter fun w => dec (w ≠ z ∧ Rc l [w] z)).length ≤ n → ∃ k ∈ VP l t, Rc l [k] z := by
 intro n
 induction n with
 | zero =>
  intro z hz hn
  refine ⟨z, List.mem_filter.2 ⟨hz, ?_⟩, .base (by simp)⟩
  by_cases c : dec (AeH l t z) = true
  ·obtain ⟨k, hk, h1, h2⟩ := EN.1 c
   have : k ∈ t.filter fun w => dec (w ≠ z ∧ Rc l [w] z) := List.mem_filter.2 ⟨hk, EN.2 ⟨h1, h2⟩⟩
   have := List.length_pos_of_mem this
   omega
  ·simp [c]
 | succ n ih =>
  intro z hz hn
  by_cases c : dec (AeH l t z) = true
  ·obtain ⟨k, hk, h1, h2⟩ := EN.1 c
   have hlt : (t.filter fun w => dec (w ≠ k ∧ Rc l [w] k)).length < (t.filter fun w => dec (w ≠ z ∧ Rc l [w] z)).length := by
    refine Zg (fun w hw hq => ?_) ⟨k, hk, EN.2 ⟨h1, h2⟩, ?_⟩
    ·obtain ⟨q1, q2⟩ := EN.1 hq
     refine EN.2 ⟨fun e => ?_, q2.trans h2⟩
     subst e
     exact q1 (Rc.anti hok (ht k hk) h2 q2)
    ·cases hd : dec (k ≠ k ∧ Rc l [k] k) with
     | false => rfl
     | true => exact absurd rfl (EN.1 hd).1
   obtain ⟨k2, hk2, hr⟩ := ih k hk (by omega)
   exact ⟨k2, hk2, hr.trans h2⟩
  ·exact ⟨z, List.mem_filter.2 ⟨hz, by simp [c]⟩, .base (by simp)⟩
theorem Anb {l : List Nd} {x : List UInt8} (h : Rc l [] x) : False := by
 induction h with
 | base h => cases h
 | step _ _ ih => exact ih
/-- The order of what some reach is not empty. -/
theorem Akj {l : List Nd} (hok : GOk l) {a : List UInt8} {s : List (List UInt8)} (ha : a ∈ s) (hal : a ∈ AL l) {ids : List (List UInt8)} (h : AdU l (Ao2 l s []) ids) : ids ≠ [] := by
 rintro rfl
 cases h with
 | none h =>
  refine hok.2 (Alt hok.1.nodup (U := Ao2 l s []) (fun y hy => ?_) (y := a) ⟨.base ha, Anb⟩ hal)
  refine Classical.byContradiction fun hno => h y ⟨hy, fun z hz hyz => hno ?_⟩
  obtain ⟨n, hn, rfl, hp⟩ := Abk hyz
  exact ⟨n, hn, hz, hp⟩
theorem AmW {l : List Nd} {t : List (List UInt8)} {z : List UInt8} : t.any (fun k => dec (Rc l [k] z)) = true ↔ ∃ k ∈ t, Rc l [k] z := by
 rw [List.any_eq_true]
 exact ⟨fun ⟨k, hk, h⟩ => ⟨k, hk, EN.1 h⟩, fun ⟨k, hk, h⟩ => ⟨k, hk, EN.2 h⟩⟩
/-- Both reach it just where a base does. -/
theorem Afq {l : List Nd} (hok : GOk l) {a b : List UInt8} {t : List (List UInt8)} (htl : ∀ x ∈ t, x ∈ AL l) (ht : ∀ z, z ∈ t ↔ Rc l [a] z ∧ Rc l [b] z) (z : List UInt8) :
  (VP l t).any (fun k => dec (Rc l [k] z)) = (dec (Rc l [a] z) && dec (Rc l [b] z)) := by
 rw [Bool.eq_iff_iff, AmW, Bool.and_eq_true, EN, EN, ← ht z]
 constructor
 ·rintro ⟨k, hk, hr⟩
  obtain ⟨h1, h2⟩ := (ht k).1 (Ad9 hk)
  exact (ht z).2 ⟨h1.trans hr, h2.trans hr⟩
 ·intro hz
  exact AkR hok htl _ z hz (Nat.le_refl _)
end Go.Proofs.YtingoaihnlhiaaaDoor

