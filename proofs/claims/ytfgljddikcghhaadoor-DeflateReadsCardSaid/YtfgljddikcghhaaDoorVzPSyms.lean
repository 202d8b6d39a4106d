import Derived.Test.YtfgljddikcghhaaDoorVzSym
import Derived.Test.YtfgljddikcghhaaDoorVzRSyms
import Derived.Test.YtfgljddikcghhaaDoorVzLen
namespace Go.Proofs.YtfgljddikcghhaaDoor
open Go.RowKit
variable [Globs]
set_option linter.unusedSectionVars false
set_option linter.unusedVariables false
set_option linter.unusedSimpArgs false

abbrev errE (e : Nat) : Value := .iface 28 (.int .i64 (e : Int))
/-- The reader, bits B left. -/
structure RdrAt (H : List Ob) (id : Nat) (B : List Bool) (o : TV) (l : List UInt8) (most win : Int) (J : Option Nat) : Prop where
 ob : ∃ inn held count, B = restB inn held count ∧ inn.length ≤ 1000000 ∧ count ≤ 7 ∧ held < 2 ^ count ∧ H[id]? = some (rdr inn held count o (i64 most) (i64 win))
 row : Row8 H o l J
 ne : J ≠ some id
 len : l.length ≤ 1000000
theorem RdrAt.lt {H : List Ob} {id : Nat} {B : List Bool} {o : TV} {l : List UInt8} {most win : Int} {J : Option Nat} (h : RdrAt H id B o l most win J) : id < H.length := by
 obtain ⟨_, _, _, _, _, _, _, h⟩ := h.ob
 exact (List.getElem?_eq_some_iff.1 h).1
theorem RdrAt.jlt {H : List Ob} {id : Nat} {B : List Bool} {o : TV} {l : List UInt8} {most win : Int} {J : Option Nat} (h : RdrAt H id B o l most win J) {j : Nat} (hj : J = some j) : j < H.length := by
 have := h.row; subst hj
 obtain ⟨v, _, h2⟩ := this
 exact (List.getElem?_eq_some_iff.1 h2).1
theorem RdrAt.keep {H H' : List Ob} {id : Nat} {B : List Bool} {o : TV} {l : List UInt8} {most win : Int} {J : Option Nat} (h : RdrAt H id B o l most win J) (hk : ∀ i, i = id ∨ J = some i → H'[i]? = H[i]?) : RdrAt H' id B o l most win J := by
 refine ⟨by rw [hk id (.inl rfl)]; exact h.ob, ?_, h.ne, h.len⟩
 have hr := h.row
 cases J with
 | none => exact hr
 | some j =>
  obtain ⟨v, h1, h2⟩ := hr
  exact ⟨v, h1, by rw [hk j (.inr rfl)]; exact h2⟩
theorem RdrAt.app {H : List Ob} {id : Nat} {B : List Bool} {o : TV} {l : List UInt8} {most win : Int} {J : Option Nat} (h : RdrAt H id B o l most win J) {G : List Ob} : RdrAt (H ++ G) id B o l most win J := h.keep fun i hi => by
 rcases hi with rfl | hi
 ·exact List.getElem?_append_left h.lt
 ·exact List.getElem?_append_left (h.jlt hi)
theorem RdrAt.set {H : List Ob} {id : Nat} {B : List Bool} {o : TV} {l : List UInt8} {most win : Int} {J : Option Nat} (h : RdrAt H id B o l most win J) {k : Nat} {x : Ob} (h1 : k ≠ id) (h2 : J ≠ some k) : RdrAt (H.set k x) id B o l most win J := h.keep fun i hi => by
 rcases hi with rfl | hi
 ·exact List.getElem?_set_ne h1
 ·exact List.getElem?_set_ne (fun e => h2 (by rw [e]; exact hi))
theorem bitsS {id n : Nat} {B : List Bool} {o : TV} {l : List UInt8} {most win : Int} {J : Option Nat} {H : List Ob} (h : RdrAt H id B o l most win J) (hn : n ≤ 16) : VCallsP Tryd.prog 24 [.op id 0 [], i64 (n : Int)] H
  (fun x H' => Frm id none H H' ∧ H'.length = H.length ∧ n ≤ B.length ∧ x = i64 ((valN (B.take n) : Nat) : Int) ∧ RdrAt H' id (B.drop n) o l most win J)
  (fun u H' => B.length < n ∧ u = errE 10 ∧ Frm id none H H') := by
 have hlt := h.lt
 obtain ⟨inn, held, count, rfl, h1, h2, h3, h4⟩ := h.ob
 refine (bitsV h4 hn h1 h2 h3).mono ?_ ?_
 ·rintro x H' ⟨inn', held', count', k1, k2, rfl, k4, k5, k6, k7⟩
  exact ⟨Frm.set, by simp, k1, k2, ⟨inn', held', count', k7.symm, by omega, k5, k6, by simp [hlt]⟩, h.row.set h.ne, h.ne, h.len⟩
 ·rintro u H' ⟨k1, k2, y, rfl⟩
  exact ⟨k1, k2, Frm.set⟩
theorem symbolS {id : Nat} {B : List Bool} {o : TV} {l : List UInt8} {most win : Int} {J : Option Nat} {T : List (Int × Int)} {H : List Ob} (h : RdrAt H id B o l most win J) (hT : Closed' T) (hT0 : 0 < T.length) :
  VCallsP Tryd.prog 48 [.op id 0 [], treeS T] H
  (fun y H' => Frm id none H H' ∧ H'.length = H.length ∧ ∃ s B', symT T 0 B = some (s, B') ∧ y = i64 (s : Int) ∧ RdrAt H' id B' o l most win J)
  (fun u H' => symT T 0 B = none ∧ u = errE 10 ∧ Frm id none H H') := by
 have hlt := h.lt
 obtain ⟨inn, held, count, rfl, h1, h2, h3, h4⟩ := h.ob
 refine (symbolV h4 hT hT0 h1 h2 h3).mono ?_ ?_
 ·rintro x H' ⟨s, inn', held', count', k1, k2, rfl, k4, k5, k6⟩
  exact ⟨Frm.set, by simp, s, _, k1, k2, ⟨inn', held', count', rfl, by omega, k5, k6, by simp [hlt]⟩, h.row.set h.ne, h.ne, h.len⟩
 ·rintro u H' ⟨k1, k2, y, rfl⟩
  exact ⟨k1, k2, Frm.set⟩
theorem putS {id : Nat} {B : List Bool} {o : TV} {l : List UInt8} {most win : Int} {b : UInt8} {J : Option Nat} {H : List Ob} (h : RdrAt H id B o l most win J) (hm : -9223372036854775808 ≤ most ∧ most ≤ 1000000) :
  VCallsP Tryd.prog 25 [.op id 0 [], by8 b] H
  (fun x H' => (l.length : Int) < most ∧ Frm id J H H' ∧ ∃ o' j, Jn J (some j) H ∧ RdrAt H' id B o' (l ++ [b]) most win (some j))
  (fun u H' => most ≤ (l.length : Int) ∧ u = errE 11 ∧ H' = H) := by
 have hlt := h.lt
 have hlen := h.len
 obtain ⟨inn, held, count, rfl, h1, h2, h3, h4⟩ := h.ob
 refine (putV h4 h.row h.ne h.len (by omega)).mono ?_ ?_
 ·rintro x H' ⟨k1, o', j, k2, k3, k4, k5, k6, k7⟩
  refine ⟨k1, ⟨k7, k6⟩, o', j, ?_, ⟨inn, held, count, rfl, h1, h2, h3, k2⟩, k3, by simpa using k4, by simp; omega⟩
  rcases k5 with e | e
  ·exact .inl e.symm
  ·exact .inr fun j2 h2 => by cases h2; exact e
 ·rintro u H' ⟨k1, k2, k3⟩
  exact ⟨k1, k2, k3⟩
theorem bits_le' (n : Nat) (B : List Bool) : valN (B.take n) < 2 ^ n := by
 have h1 := valN_lt (B.take n)
 have h2 : (B.take n).length ≤ n := by rw [List.length_take]; omega
 have h3 : 2 ^ (B.take n).length ≤ 2 ^ n := Nat.pow_le_pow_right (by omega) h2
 omega
/-- The same bytes again. -/
theorem pcopy {id n far : Nat} {t1 t2 : TV} {B : List Bool} {l : List UInt8} {o : TV} {most win : Int} {J : Option Nat} {H : List Ob} {Q : VEx → Env → List Ob → Prop} (hst : RdrAt H id B o l most win J) (hm : -9223372036854775808 ≤ most ∧ most ≤ 1000000) (hn : n ≤ 3000) (hf0 : 1 ≤ far) (hf : far ≤ l.length)
  (hok : ∀ l' J' o' H' y, copyN most far n l = some l' → RdrAt H' id B o' l' most win J' → Jn J J' H → Frm id J H H' → Q .nor [(0, .op id 0 []), (1, t1), (2, t2), (9, i64 (far : Int)), (67, i64 (n : Int)), (68, i64 (n : Int)), (69, y)] H')
  (herr : ∀ H', copyN most far n l = none → Frm id J H H' → ∀ e, Q (.pan (errE 11)) e H') :
  vwp Tryd.prog (.loop [0, 1, 2, 9, 67, 68] c_deflate_reader_symbols_L4) (Blk 3 Q) [(0, .op id 0 []), (1, t1), (2, t2), (9, i64 (far : Int)), (67, i64 (n : Int)), (68, i64 ((0 : Nat) : Int))] H := by
 refine w_loop (fun q e H' => ∃ k : Nat, q = n - k ∧ k ≤ n ∧ e = [(0, .op id 0 []), (1, t1), (2, t2), (9, i64 (far : Int)), (67, i64 (n : Int)), (68, i64 (k : Int))] ∧ Frm id J H H' ∧
  ∃ l' J' o', copyN most far n l = copyN most far (n - k) l' ∧ far ≤ l'.length ∧ RdrAt H' id B o' l' most win J' ∧ Jn J J' H) n ?_ ?_
 ·exact ⟨0, rfl, by omega, rfl, Frm.refl, l, J, o, rfl, hf, hst, Jn.refl⟩
 ·rintro q e H' ⟨k, rfl, hk, rfl, hfr, l', J', o', c1, c2, hs, hj⟩
  by_cases hlt : k < n
  ·obtain ⟨inn, held, count, _, _, _, _, ho⟩ := hs.ob
   have hlen := hs.len
   obtain ⟨b, hb⟩ : ∃ b, l'[l'.length - far]? = some b := ⟨_, List.getElem?_eq_getElem (by omega)⟩
   have hstep : copyN most far (n - k) l' = if most ≤ (l'.length : Int) then none else copyN most far (n - (k + 1)) (l' ++ [b]) := by
    rw [show n - k = (n - (k + 1)) + 1 by omega, copyN, hb]; rfl
   have hrow := hs.row
   cases J' with
   | none =>
    obtain ⟨rfl, rfl⟩ := hrow
    simp at c2; omega
   | some j =>
    obtain ⟨v, rfl, hjo⟩ := hrow
    simp -dsimp (disch := first | assumption | omega | (simp only [vmLen]; done) | (simp only [vmLen]; omega)) only [↓vmPre, vmPost, vmWrd, vmDat, eq_self, forall_const, Nat.reduceLT, Nat.reduceEqDiff, Nat.reduceSub, Nat.reduceMul, Nat.reduceMod, Nat.reduceDiv, Nat.reducePow, UInt8.reduceToNat, Int.reduceEq, Int.reduceLT, Int.reduceLE, ↓reduceIte, Nat.reduceAdd, Int.reduceToNat, reduceCtorEq, Nat.reduceLeDiff, ↓u_deflate_reader_symbols, ho, hjo, hb]
    refine (putS hs hm).callsP ?_ ?_
    ·rintro x H2 ⟨k1, k2, o2, j2, k3, k4⟩
     rw [if_neg (by omega)] at hstep
     simp -dsimp (disch := first | assumption | omega | (simp only [vmLen]; done) | (simp only [vmLen]; omega)) only [↓vmPre, vmPost, vmWrd, vmDat, eq_self, forall_const, Nat.reduceLT, Nat.reduceEqDiff, Nat.reduceSub, Nat.reduceMul, Nat.reduceMod, Nat.reduceDiv, Nat.reducePow, UInt8.reduceToNat, Int.reduceEq, Int.reduceLT, Int.reduceLE, ↓reduceIte, Nat.reduceAdd, Int.reduceToNat, reduceCtorEq, Nat.reduceLeDiff, ↓u_deflate_reader_symbols]
     exact Rnd_keep (n - (k + 1)) (by omega) (by have := hfr.1; have := k2.1; omega) ⟨k + 1, rfl, by omega, rfl, hfr.trans hj k2, l' ++ [b], some j2, o2, by rw [c1, hstep], by simp; omega, k4, Jn.trans hfr hj k3⟩
    ·rintro u H2 ⟨k1, rfl, rfl⟩
     rw [if_pos k1] at hstep
     exact herr _ (by rw [c1, hstep]) hfr _
  ·have hkn : k = n := by omega
   subst hkn
   rw [Nat.sub_self, copyN] at c1
   simp -dsimp (disch := first | assumption | omega | (simp only [vmLen]; done) | (simp only [vmLen]; omega)) only [↓vmPre, vmPost, vmWrd, vmDat, eq_self, forall_const, Nat.reduceLT, Nat.reduceEqDiff, Nat.reduceSub, Nat.reduceMul, Nat.reduceMod, Nat.reduceDiv, Nat.reducePow, UInt8.reduceToNat, Int.reduceEq, Int.reduceLT, Int.reduceLE, ↓reduceIte, Nat.reduceAdd, Int.reduceToNat, reduceCtorEq, Nat.reduceLeDiff, ↓u_deflate_reader_symbols]
   exact hok l' J' o' H' _ c1 hs hj hfr
set_option maxHeartbeats 1000000 in
theorem psymsV {id : Nat} {B : List Bool} {o : TV} {l : List UInt8} {most win : Int} {J : Option Nat} {T T2 : List (Int × Int)} {H : List Ob} (fuel : Nat) (hst : RdrAt H id B o l most win J) (hfu : B.length < fuel) (hT : Closed' T) (hT0 : 0 < T.length) (hT2 : Closed' T2) (hT20 : 0 < T2.length) (hr : RdOk (symT T 0)) (hsym : ∀ B y B1, symT T 0 B = some (y, B1) → y ≤ 100000) (hsym2 : ∀ B y B1, symT T2 0 B = some (y, B1) → y ≤ 100000) (hr2 : RdOk (symT T2 0)) (hm : -9223372036854775808 ≤ most ∧ most ≤ 1000000) (hw : -9223372036854775808 ≤ win ∧ win ≤ 9223372036854775807) :
  VCallsP Tryd.prog 27 [.op id 0 [], treeS T, treeS T2] H
  (fun x H' => Frm id J H H' ∧ ∃ B' l' o' J', syms (symT T 0) (symT T2 0) most win fuel B l = .ok (B', l') ∧ RdrAt H' id B' o' l' most win J' ∧ Jn J J' H)
  (fun u H' => Frm id J H H' ∧ ∃ e, syms (symT T 0) (symT T2 0) most win fuel B l = .error e ∧ u = errE e) := by
 obtain ⟨R, hR⟩ : ∃ R, R = syms (symT T 0) (symT T2 0) most win fuel B l := ⟨_, rfl⟩
 rw [← hR]
 refine gp_deflate_reader_symbols (by simp) ?_
 simp -dsimp (disch := first | assumption | omega | (simp only [vmLen]; done) | (simp only [vmLen]; omega)) only [↓vmPre, vmPost, vmWrd, vmDat, eq_self, forall_const, Nat.reduceLT, Nat.reduceEqDiff, Nat.reduceSub, Nat.reduceMul, Nat.reduceMod, Nat.reduceDiv, Nat.reducePow, UInt8.reduceToNat, Int.reduceEq, Int.reduceLT, Int.reduceLE, ↓reduceIte, Nat.reduceAdd, Int.reduceToNat, reduceCtorEq, Nat.reduceLeDiff, ↓u_deflate_reader_symbols]
 refine w_loop (fun q e H' => ∃ B1 o1 l1 J1, e = [(0, .op id 0 []), (1, treeS T), (2, treeS T2)] ∧ Frm id J H H' ∧ B1.length < q ∧ R = syms (symT T 0) (symT T2 0) most win q B1 l1 ∧ RdrAt H' id B1 o1 l1 most win J1 ∧ Jn J J1 H) fuel ?_ ?_
 ·exact ⟨B, o, l, J, rfl, Frm.refl, hfu, hR, hst, Jn.refl⟩
 ·rintro q e H' ⟨B1, o1, l1, J1, rfl, hfr, hq, hR1, hs, hj⟩
  obtain ⟨f, rfl⟩ : ∃ f', q = f' + 1 := ⟨q - 1, by omega⟩
  rw [syms] at hR1
  have hl0 := hfr.1
  simp -dsimp (disch := first | assumption | omega | (simp only [vmLen]; done) | (simp only [vmLen]; omega)) only [↓vmPre, vmPost, vmWrd, vmDat, eq_self, forall_const, Nat.reduceLT, Nat.reduceEqDiff, Nat.reduceSub, Nat.reduceMul, Nat.reduceMod, Nat.reduceDiv, Nat.reducePow, UInt8.reduceToNat, Int.reduceEq, Int.reduceLT, Int.reduceLE, ↓reduceIte, Nat.reduceAdd, Int.reduceToNat, reduceCtorEq, Nat.reduceLeDiff, ↓u_deflate_reader_symbols]
  refine (symbolS hs hT hT0).callsP ?_ ?_
  case refine_2 =>
   rintro u H2 ⟨k1, rfl, k3⟩
   rw [k1] at hR1
   exact ⟨hfr.trans hj k3.weak, 10, hR1, rfl⟩
  rintro x H2 ⟨f2, l2, y, B2, k1, rfl, s2⟩
  have hyl := hsym _ _ _ k1
  have hB2 := hr _ _ _ k1
  rw [k1] at hR1
  simp only at hR1
  have hfr2 : Frm id J H H2 := hfr.trans hj f2.weak
  have hl2 := hfr2.1
  by_cases hy : y < 256
  ·rw [if_pos hy] at hR1
   simp -dsimp (disch := first | assumption | omega | (simp only [vmLen]; done) | (simp only [vmLen]; omega)) only [↓vmPre, vmPost, vmWrd, vmDat, eq_self, forall_const, Nat.reduceLT, Nat.reduceEqDiff, Nat.reduceSub, Nat.reduceMul, Nat.reduceMod, Nat.reduceDiv, Nat.reducePow, UInt8.reduceToNat, Int.reduceEq, Int.reduceLT, Int.reduceLE, ↓reduceIte, Nat.reduceAdd, Int.reduceToNat, reduceCtorEq, Nat.reduceLeDiff, ↓u_deflate_reader_symbols]
   refine (putS (b := UInt8.ofNat y) s2 hm).callsP ?_ ?_
   ·rintro x H3 ⟨k1, k2, o3, j3, k3, k4⟩
    rw [if_neg (by omega)] at hR1
    have := k2.1
    simp -dsimp (disch := first | assumption | omega | (simp only [vmLen]; done) | (simp only [vmLen]; omega)) only [↓vmPre, vmPost, vmWrd, vmDat, eq_self, forall_const, Nat.reduceLT, Nat.reduceEqDiff, Nat.reduceSub, Nat.reduceMul, Nat.reduceMod, Nat.reduceDiv, Nat.reducePow, UInt8.reduceToNat, Int.reduceEq, Int.reduceLT, Int.reduceLE, ↓reduceIte, Nat.reduceAdd, Int.reduceToNat, reduceCtorEq, Nat.reduceLeDiff, ↓u_deflate_reader_symbols]
    exact Rnd_keep f (by omega) (by omega) ⟨B2, o3, _, some j3, rfl, hfr2.trans hj k2, by omega, hR1, k4, Jn.trans hfr2 hj k3⟩
   ·rintro u H3 ⟨k1, rfl, rfl⟩
    rw [if_pos k1] at hR1
    exact ⟨hfr2, 11, hR1, rfl⟩
  rw [if_neg hy] at hR1
  by_cases hy2 : y = 256
  ·subst hy2
   rw [if_pos rfl] at hR1
   simp -dsimp (disch := first | assumption | omega | (simp only [vmLen]; done) | (simp only [vmLen]; omega)) only [↓vmPre, vmPost, vmWrd, vmDat, eq_self, forall_const, Nat.reduceLT, Nat.reduceEqDiff, Nat.reduceSub, Nat.reduceMul, Nat.reduceMod, Nat.reduceDiv, Nat.reducePow, UInt8.reduceToNat, Int.reduceEq, Int.reduceLT, Int.reduceLE, ↓reduceIte, Nat.reduceAdd, Int.reduceToNat, reduceCtorEq, Nat.reduceLeDiff, ↓u_deflate_reader_symbols]
   exact ⟨hfr2, B2, l1, o1, J1, hR1, s2, hj⟩
  rw [if_neg hy2] at hR1
  by_cases hy3 : 285 < y
  ·rw [if_pos hy3] at hR1
   simp -dsimp (disch := first | assumption | omega | (simp only [vmLen]; done) | (simp only [vmLen]; omega)) only [↓vmPre, vmPost, vmWrd, vmDat, eq_self, forall_const, Nat.reduceLT, Nat.reduceEqDiff, Nat.reduceSub, Nat.reduceMul, Nat.reduceMod, Nat.reduceDiv, Nat.reducePow, UInt8.reduceToNat, Int.reduceEq, Int.reduceLT, Int.reduceLE, ↓reduceIte, Nat.reduceAdd, Int.reduceToNat, reduceCtorEq, Nat.reduceLeDiff, ↓u_deflate_reader_symbols]
   exact ⟨hfr2, 10, hR1, rfl⟩
  rw [if_neg hy3] at hR1
  have hy4 : 257 ≤ y ∧ y ≤ 285 := by omega
  simp -dsimp (disch := first | assumption | omega | (simp only [vmLen]; done) | (simp only [vmLen]; omega)) only [↓vmPre, vmPost, vmWrd, vmDat, eq_self, forall_const, Nat.reduceLT, Nat.reduceEqDiff, Nat.reduceSub, Nat.reduceMul, Nat.reduceMod, Nat.reduceDiv, Nat.reducePow, UInt8.reduceToNat, Int.reduceEq, Int.reduceLT, Int.reduceLE, ↓reduceIte, Nat.reduceAdd, Int.reduceToNat, reduceCtorEq, Nat.reduceLeDiff, ↓u_deflate_reader_symbols]
  refine (lengthSpanV y hy4).calls rfl ?_
  rintro _ rfl
  have hlp : (if y = 285 then (258, 0) else spanP 3 4 (y - 257)) = lenP y := rfl
  rw [hlp]
  have hlb : (lenP y).1 ≤ 1000 ∧ (lenP y).2 ≤ 10 ∧ 1 ≤ (lenP y).1 := by
   unfold lenP
   split
   ·simp
   ·have := span_lenB (y - 257) (by omega)
    rw [span_len (y - 257) (by omega)] at this
    refine ⟨this.1, this.2, ?_⟩
    unfold spanP; split <;> simp only <;> omega
  obtain ⟨hlb1, hlb2, hlb3⟩ := hlb
  rw [refP] at hR1
  simp -dsimp (disch := first | assumption | omega | (simp only [vmLen]; done) | (simp only [vmLen]; omega)) only [↓vmPre, vmPost, vmWrd, vmDat, eq_self, forall_const, Nat.reduceLT, Nat.reduceEqDiff, Nat.reduceSub, Nat.reduceMul, Nat.reduceMod, Nat.reduceDiv, Nat.reducePow, UInt8.reduceToNat, Int.reduceEq, Int.reduceLT, Int.reduceLE, ↓reduceIte, Nat.reduceAdd, Int.reduceToNat, reduceCtorEq, Nat.reduceLeDiff, ↓u_deflate_reader_symbols]
  have hid2 := s2.lt
  have hJ2 : ∀ j, J1 = some j → j < H2.length := fun j hj => s2.jlt hj
  obtain ⟨X, hX⟩ : ∃ X, X = H2.length := ⟨_, rfl⟩
  have hXl : (H2 ++ [Ob.obj 0 (spn (lenP y))])[X]? = some (Ob.obj 0 (spn (lenP y))) := by rw [hX, List.getElem?_append_right (Nat.le_refl _)]; simp
  have hfr2' : Frm id J H (H2 ++ [Ob.obj 0 (spn (lenP y))]) := hfr2.trans (J' := J1) hj ⟨by simp, fun i hi _ _ => List.getElem?_append_left hi⟩
  refine (bitsS (s2.app (G := [Ob.obj 0 (spn (lenP y))])) (n := (lenP y).2) (by omega)).callsP ?_ ?_
  case refine_2 =>
   rintro u H3 ⟨k1, rfl, k3⟩
   rw [if_pos k1] at hR1
   exact ⟨hfr2'.trans hj k3.weak, 10, hR1, rfl⟩
  rintro x H3 ⟨f3, l3, k1, rfl, s3⟩
  rw [if_neg (by omega)] at hR1
  have hl3 : H3.length = H2.length + 1 := by rw [l3]; simp
  have hX3 : H3[X]? = some (Ob.obj 0 (spn (lenP y))) := by rw [f3.2 X (by simp; omega) (by omega) (by simp)]; exact hXl
  have hfr3 : Frm id J H H3 := hfr2'.trans hj f3.weak
  refine ⟨?_, ?_⟩
  case refine_2 =>
   change Kept [29, 32] _ _ _
   intro s hs j ver p hg
   simp only [List.mem_cons, List.not_mem_nil, or_false] at hs
   rcases hs with rfl | rfl <;>
   ·simp [get] at hg
    obtain ⟨rfl, _⟩ := hg
    rw [← hX, hX3, hXl]
  obtain ⟨n2, hn2⟩ : ∃ n2, n2 = valN (B2.take (lenP y).2) := ⟨_, rfl⟩
  rw [← hn2]
  have hn2l : n2 ≤ 1024 := by
   have h1 := bits_le' (lenP y).2 B2
   rw [← hn2] at h1
   have h3 : 2 ^ (lenP y).2 ≤ 2 ^ 10 := Nat.pow_le_pow_right (by omega) hlb2
   omega
  simp -dsimp (disch := first | assumption | omega | (simp only [vmLen]; done) | (simp only [vmLen]; omega)) only [↓vmPre, vmPost, vmWrd, vmDat, eq_self, forall_const, Nat.reduceLT, Nat.reduceEqDiff, Nat.reduceSub, Nat.reduceMul, Nat.reduceMod, Nat.reduceDiv, Nat.reducePow, UInt8.reduceToNat, Int.reduceEq, Int.reduceLT, Int.reduceLE, ↓reduceIte, Nat.reduceAdd, Int.reduceToNat, reduceCtorEq, Nat.reduceLeDiff, ↓u_deflate_reader_symbols]
  refine (symbolS s3 hT2 hT20).callsP ?_ ?_
  case refine_2 =>
   rintro u H4 ⟨k1, rfl, k3⟩
   rw [k1] at hR1
   exact ⟨hfr3.trans hj k3.weak, 10, hR1, rfl⟩
  rintro x H4 ⟨f4, l4, d, B3, k2, rfl, s4⟩
  have hdl := hsym2 _ _ _ k2
  have hB3 := hr2 _ _ _ k2
  rw [k2] at hR1
  simp only at hR1
  have hfr4 : Frm id J H H4 := hfr3.trans hj f4.weak
  by_cases hd29 : 29 < d
  ·rw [if_pos hd29] at hR1
   simp -dsimp (disch := first | assumption | omega | (simp only [vmLen]; done) | (simp only [vmLen]; omega)) only [↓vmPre, vmPost, vmWrd, vmDat, eq_self, forall_const, Nat.reduceLT, Nat.reduceEqDiff, Nat.reduceSub, Nat.reduceMul, Nat.reduceMod, Nat.reduceDiv, Nat.reducePow, UInt8.reduceToNat, Int.reduceEq, Int.reduceLT, Int.reduceLE, ↓reduceIte, Nat.reduceAdd, Int.reduceToNat, reduceCtorEq, Nat.reduceLeDiff, ↓u_deflate_reader_symbols]
   exact ⟨hfr4, 10, hR1, rfl⟩
  rw [if_neg hd29] at hR1
  have hd4 : d ≤ 29 := by omega
  have hX4 : H4[X]? = some (Ob.obj 0 (spn (lenP y))) := by rw [f4.2 X (by omega) (by omega) (by simp)]; exact hX3
  simp -dsimp (disch := first | assumption | omega | (simp only [vmLen]; done) | (simp only [vmLen]; omega)) only [↓vmPre, vmPost, vmWrd, vmDat, eq_self, forall_const, Nat.reduceLT, Nat.reduceEqDiff, Nat.reduceSub, Nat.reduceMul, Nat.reduceMod, Nat.reduceDiv, Nat.reducePow, UInt8.reduceToNat, Int.reduceEq, Int.reduceLT, Int.reduceLE, ↓reduceIte, Nat.reduceAdd, Int.reduceToNat, reduceCtorEq, Nat.reduceLeDiff, ↓u_deflate_reader_symbols]
  refine (distanceSpanV d hd4).calls rfl ?_
  rintro _ rfl
  obtain ⟨hpb1, hpb2⟩ := span_distB d (by omega)
  rw [span_dist d (by omega)] at hpb1 hpb2
  have hpb3 : 1 ≤ (spanP 1 2 d).1 := by unfold spanP; split <;> simp only <;> omega
  rw [← hX]
  simp -dsimp (disch := first | assumption | omega | (simp only [vmLen]; done) | (simp only [vmLen]; omega)) only [↓vmPre, vmPost, vmWrd, vmDat, eq_self, forall_const, Nat.reduceLT, Nat.reduceEqDiff, Nat.reduceSub, Nat.reduceMul, Nat.reduceMod, Nat.reduceDiv, Nat.reducePow, UInt8.reduceToNat, Int.reduceEq, Int.reduceLT, Int.reduceLE, ↓reduceIte, Nat.reduceAdd, Int.reduceToNat, reduceCtorEq, Nat.reduceLeDiff, ↓u_deflate_reader_symbols, hX4]
  have hXl4 : X < H4.length := (List.getElem?_eq_some_iff.1 hX4).1
  have s4' : RdrAt (H4.set X (Ob.obj 0 (spn (spanP 1 2 d)))) id B3 o1 l1 most win J1 := s4.set (by omega) (fun e => by have := hJ2 _ e; omega)
  have hXs : (H4.set X (Ob.obj 0 (spn (spanP 1 2 d))))[X]? = some (Ob.obj 0 (spn (spanP 1 2 d))) := by simp [hXl4]
  have hfr4' : Frm id J H (H4.set X (Ob.obj 0 (spn (spanP 1 2 d)))) := ⟨by have := hfr4.1; simp; omega, fun i hi h1 h2 => by rw [List.getElem?_set_ne (by omega)]; exact hfr4.2 i hi h1 h2⟩
  refine (bitsS s4' (n := (spanP 1 2 d).2) (by omega)).callsP ?_ ?_
  case refine_2 =>
   rintro u H5 ⟨k3, rfl, k4⟩
   rw [if_pos k3] at hR1
   exact ⟨hfr4'.trans hj k4.weak, 10, hR1, rfl⟩
  rintro x H5 ⟨f5, l5, k3, rfl, s5⟩
  rw [if_neg (by omega)] at hR1
  have hfr5 : Frm id J H H5 := hfr4'.trans hj f5.weak
  refine ⟨?_, ?_⟩
  case refine_2 =>
   change Kept [44, 47] _ _ _
   intro s hs j ver p hg
   simp only [List.mem_cons, List.not_mem_nil, or_false] at hs
   rcases hs with rfl | rfl <;>
   ·simp [get] at hg
    obtain ⟨rfl, _⟩ := hg
    exact f5.2 X (by simpa using hXl4) (by omega) (by simp)
  obtain ⟨n4, hn4⟩ : ∃ n4, n4 = valN (B3.take (spanP 1 2 d).2) := ⟨_, rfl⟩
  rw [← hn4]
  rw [← hn4, ← hn2] at hR1
  simp only at hR1
  have hn4l : n4 ≤ 65536 := by
   have h1 := bits_le' (spanP 1 2 d).2 B3
   rw [← hn4] at h1
   have h3 : 2 ^ (spanP 1 2 d).2 ≤ 2 ^ 15 := Nat.pow_le_pow_right (by omega) hpb2
   omega
  obtain ⟨far, hfar⟩ : ∃ far, far = (spanP 1 2 d).1 + n4 := ⟨_, rfl⟩
  rw [← hfar] at hR1
  have hE : (((spanP 1 2 d).1 : Int) + (n4 : Int)) = (far : Int) := by omega
  have hlen5 := s5.len
  have hB5 : (B3.drop (spanP 1 2 d).2).length < f := by
   rw [List.length_drop]
   have := hB3
   rw [List.length_drop] at this
   omega
  obtain ⟨inn, held, count, _, _, _, _, ho5⟩ := s5.ob
  have hrow5 := s5.row
  cases J1 with
  | none =>
   obtain ⟨rfl, rfl⟩ := hrow5
   rw [if_pos (.inl (by simp; omega))] at hR1
   simp -dsimp (disch := first | assumption | omega | (simp only [vmLen]; done) | (simp only [vmLen]; omega)) only [↓vmPre, vmPost, vmWrd, vmDat, eq_self, forall_const, Nat.reduceLT, Nat.reduceEqDiff, Nat.reduceSub, Nat.reduceMul, Nat.reduceMod, Nat.reduceDiv, Nat.reducePow, UInt8.reduceToNat, Int.reduceEq, Int.reduceLT, Int.reduceLE, ↓reduceIte, Nat.reduceAdd, Int.reduceToNat, reduceCtorEq, Nat.reduceLeDiff, ↓u_deflate_reader_symbols, ho5, hE]
   exact ⟨hfr5, 10, hR1, rfl⟩
  | some j1 =>
   obtain ⟨v1, rfl, hjo⟩ := hrow5
   by_cases hfa : l1.length < far
   ·rw [if_pos (.inl hfa)] at hR1
    simp -dsimp (disch := first | assumption | omega | (simp only [vmLen]; done) | (simp only [vmLen]; omega)) only [↓vmPre, vmPost, vmWrd, vmDat, eq_self, forall_const, Nat.reduceLT, Nat.reduceEqDiff, Nat.reduceSub, Nat.reduceMul, Nat.reduceMod, Nat.reduceDiv, Nat.reducePow, UInt8.reduceToNat, Int.reduceEq, Int.reduceLT, Int.reduceLE, ↓reduceIte, Nat.reduceAdd, Int.reduceToNat, reduceCtorEq, Nat.reduceLeDiff, ↓u_deflate_reader_symbols, ho5, hjo, hE]
    exact ⟨hfr5, 10, hR1, rfl⟩
   by_cases hfw : win < (far : Int)
   ·rw [if_pos (.inr hfw)] at hR1
    simp -dsimp (disch := first | assumption | omega | (simp only [vmLen]; done) | (simp only [vmLen]; omega)) only [↓vmPre, vmPost, vmWrd, vmDat, eq_self, forall_const, Nat.reduceLT, Nat.reduceEqDiff, Nat.reduceSub, Nat.reduceMul, Nat.reduceMod, Nat.reduceDiv, Nat.reducePow, UInt8.reduceToNat, Int.reduceEq, Int.reduceLT, Int.reduceLE, ↓reduceIte, Nat.reduceAdd, Int.reduceToNat, reduceCtorEq, Nat.reduceLeDiff, ↓u_deflate_reader_symbols, ho5, hjo, hE]
    exact ⟨hfr5, 10, hR1, rfl⟩
   rw [if_neg (by omega)] at hR1
   have hl5 : H.length ≤ H5.length := hfr5.1
   simp -dsimp (disch := first | assumption | omega | (simp only [vmLen]; done) | (simp only [vmLen]; omega)) only [↓vmPre, vmPost, vmWrd, vmDat, eq_self, forall_const, Nat.reduceLT, Nat.reduceEqDiff, Nat.reduceSub, Nat.reduceMul, Nat.reduceMod, Nat.reduceDiv, Nat.reducePow, UInt8.reduceToNat, Int.reduceEq, Int.reduceLT, Int.reduceLE, ↓reduceIte, Nat.reduceAdd, Int.reduceToNat, reduceCtorEq, Nat.reduceLeDiff, ↓u_deflate_reader_symbols, ho5, hjo, hE]
   refine pcopy (n := (lenP y).1 + n2) (far := far) s5 hm (by omega) (by omega) (by omega) ?_ ?_
   ·intro l' J' o' H6 yy c1 c2 c3 c4
    rw [c1] at hR1
    have hl6 := c4.1
    simp -dsimp (disch := first | assumption | omega | (simp only [vmLen]; done) | (simp only [vmLen]; omega)) only [↓vmPre, vmPost, vmWrd, vmDat, eq_self, forall_const, Nat.reduceLT, Nat.reduceEqDiff, Nat.reduceSub, Nat.reduceMul, Nat.reduceMod, Nat.reduceDiv, Nat.reducePow, UInt8.reduceToNat, Int.reduceEq, Int.reduceLT, Int.reduceLE, ↓reduceIte, Nat.reduceAdd, Int.reduceToNat, reduceCtorEq, Nat.reduceLeDiff, ↓u_deflate_reader_symbols]
    exact Rnd_keep f (by omega) (by omega) ⟨_, o', l', J', rfl, hfr5.trans hj c4, hB5, hR1, c2, Jn.trans hfr5 hj c3⟩
   ·intro H6 c1 c4 _
    rw [c1] at hR1
    exact ⟨hfr5.trans hj c4, 11, hR1, rfl⟩
end Go.Proofs.YtfgljddikcghhaaDoor

