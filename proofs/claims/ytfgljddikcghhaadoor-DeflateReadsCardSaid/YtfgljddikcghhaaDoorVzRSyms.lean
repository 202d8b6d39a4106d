import Derived.Test.YtfgljddikcghhaaDoorVzPlain
import Derived.Test.YtfgljddikcghhaaDoorVzRSym
namespace Go.Proofs.YtfgljddikcghhaaDoor
open Go.RowKit
variable [Globs]
set_option linter.unusedSectionVars false
set_option linter.unusedVariables false
set_option linter.unusedSimpArgs false

/-- All is as it was but the object id and the row J. -/
def Frm (id : Nat) (J : Option Nat) (H H' : List Ob) : Prop := H.length ≤ H'.length ∧ ∀ i, i < H.length → i ≠ id → J ≠ some i → H'[i]? = H[i]?
/-- The row is the same, or a new one. -/
def Jn (J J' : Option Nat) (H : List Ob) : Prop := J' = J ∨ ∀ j, J' = some j → H.length ≤ j
theorem Frm.refl {id : Nat} {J : Option Nat} {H : List Ob} : Frm id J H H := ⟨Nat.le_refl _, fun _ _ _ _ => rfl⟩
theorem Jn.refl {J : Option Nat} {H : List Ob} : Jn J J H := .inl rfl
theorem Frm.trans {id : Nat} {J J' : Option Nat} {H H' H'' : List Ob} (h : Frm id J H H') (hj : Jn J J' H) (h2 : Frm id J' H' H'') : Frm id J H H'' :=
 ⟨Nat.le_trans h.1 h2.1, fun i hi h3 h4 => by
  rw [h2.2 i (Nat.lt_of_lt_of_le hi h.1) h3 ?_, h.2 i hi h3 h4]
  rcases hj with e | e
  ·rw [e]; exact h4
  ·intro e2; have := e i e2; omega⟩
theorem Jn.trans {id : Nat} {J J' J'' : Option Nat} {H H' : List Ob} (h : Frm id J H H') (hj : Jn J J' H) (h2 : Jn J' J'' H') : Jn J J'' H := by
 rcases h2 with e | e
 ·rw [e]; exact hj
 ·exact .inr fun j hj' => Nat.le_trans h.1 (e j hj')
theorem Frm.set {id : Nat} {J : Option Nat} {H : List Ob} {o : Ob} : Frm id J H (H.set id o) := ⟨by simp, fun i hi h1 _ => by rw [List.getElem?_set_ne (Ne.symm h1)]⟩
theorem Frm.of_lt {id : Nat} {J : Option Nat} {H H' : List Ob} {o : Ob} (h : ∀ k, k < H.length → H'[k]? = (H.set id o)[k]?) : Frm id J H H' := by
 refine ⟨?_, fun i hi h1 _ => by rw [h i hi, List.getElem?_set_ne (Ne.symm h1)]⟩
 rcases Nat.lt_or_ge H'.length H.length with hl | hl
 ·have := h H'.length hl
  rw [List.getElem?_eq_none (Nat.le_refl _), List.getElem?_eq_getElem (by simpa using hl)] at this
  cases this
 ·exact hl
theorem Row8.width1 {H : List Ob} {o : TV} {l : List UInt8} {J : Option Nat} (h : Row8 H o l J) : width o = 1 := by
 cases J with
 | none => obtain ⟨rfl, _⟩ := h; rfl
 | some j => obtain ⟨v, rfl, _⟩ := h; rfl
theorem Row8.keep {H H' : List Ob} {o : TV} {l : List UInt8} {J J2 : Option Nat} {id : Nat} (h : Row8 H o l J) (hf : Frm id J2 H H') (hJ : J ≠ some id) (hJ2 : J2 = none ∨ J2 ≠ J) : Row8 H' o l J := by
 cases J with
 | none => exact h
 | some j =>
  obtain ⟨v, h1, h2⟩ := h
  refine ⟨v, h1, ?_⟩
  rw [hf.2 j (List.getElem?_eq_some_iff.1 h2).1 (fun e => hJ (by rw [e])) ?_]
  ·exact h2
  ·rcases hJ2 with e | e
   ·rw [e]; simp
   ·exact e
theorem Row8.set {H : List Ob} {x : TV} {l : List UInt8} {J : Option Nat} {id : Nat} {o : Ob} (h : Row8 H x l J) (hJ : J ≠ some id) : Row8 (H.set id o) x l J := h.keep (J2 := none) Frm.set hJ (.inl rfl)
/-- The stream, as it goes well. -/
structure StmOk (H : List Ob) (id : Nat) (inn : List UInt8) (at_ : Nat) (o : TV) (l : List UInt8) (most win : Int) (J : Option Nat) : Prop where
 ob : H[id]? = some (stm inn at_ o most win 0)
 row : Row8 H o l J
 ne : J ≠ some id
 at_ : at_ ≤ 8 * inn.length
 len : l.length ≤ 1000000
/-- The stream, behind an error. -/
structure StmBad (H : List Ob) (id : Nat) (inn : List UInt8) (most win : Int) (err : Nat) : Prop where
 ne : err ≠ 0
 ob : ∃ at_ o, at_ ≤ 8 * inn.length ∧ width o = 1 ∧ H[id]? = some (stm inn at_ o most win err)
theorem StmOk.lt {H : List Ob} {id : Nat} {inn : List UInt8} {at_ : Nat} {o : TV} {l : List UInt8} {most win : Int} {J : Option Nat} (h : StmOk H id inn at_ o l most win J) : id < H.length := (List.getElem?_eq_some_iff.1 h.ob).1
theorem StmOk.moved {H H' : List Ob} {id : Nat} {inn : List UInt8} {at_ at' : Nat} {o : TV} {l : List UInt8} {most win : Int} {J : Option Nat} (h : StmOk H id inn at_ o l most win J) (h1 : H'[id]? = some (stm inn at' o most win 0)) (h2 : at' ≤ 8 * inn.length) (hf : Frm id none H H') : StmOk H' id inn at' o l most win J :=
 ⟨h1, h.row.keep hf h.ne (.inl rfl), h.ne, h2, h.len⟩
theorem Frm.weak {id : Nat} {J : Option Nat} {H H' : List Ob} (h : Frm id none H H') : Frm id J H H' := ⟨h.1, fun i h1 h2 _ => h.2 i h1 h2 (by simp)⟩

/-- The same bytes again. -/
theorem rcopy {id L L2 at_ n far : Nat} {inn l : List UInt8} {o : TV} {most win : Int} {J : Option Nat} {H : List Ob} {Q : VEx → Env → List Ob → Prop} (hst : StmOk H id inn at_ o l most win J) (hm : -9223372036854775808 ≤ most ∧ most ≤ 1000000) (hn : n ≤ 3000) (hf0 : 1 ≤ far) (hf : far ≤ l.length) (hi : inn.length ≤ 1000000)
  (hok : ∀ l' J' o' H' y, copyN most far n l = some l' → StmOk H' id inn at_ o' l' most win J' → Jn J J' H → Frm id J H H' → Q .nor [(0, .op id 0 []), (4, .op L 0 []), (5, .op L2 0 []), (9, i64 (n : Int)), (11, i64 (far : Int)), (12, i64 (n : Int)), (100, y)] H')
  (herr : ∀ H' y, copyN most far n l = none → StmBad H' id inn most win 11 → Frm id J H H' → Q .nor [(0, .op id 0 []), (4, .op L 0 []), (5, .op L2 0 []), (9, i64 (n : Int)), (11, i64 (far : Int)), (12, i64 (n : Int)), (100, y)] H') :
  vwp Tryd.prog (.loop [0, 4, 5, 9, 11, 12] c_ref1_Stream_symbols_L4) (Blk 2 Q) [(0, .op id 0 []), (4, .op L 0 []), (5, .op L2 0 []), (9, i64 (n : Int)), (11, i64 (far : Int)), (12, i64 ((0 : Nat) : Int))] H := by
 refine w_loop (fun q e H' => ∃ k : Nat, q = n - k ∧ k ≤ n ∧ e = [(0, .op id 0 []), (4, .op L 0 []), (5, .op L2 0 []), (9, i64 (n : Int)), (11, i64 (far : Int)), (12, i64 (k : Int))] ∧ Frm id J H H' ∧
  ((∃ l' J' o', copyN most far n l = copyN most far (n - k) l' ∧ far ≤ l'.length ∧ StmOk H' id inn at_ o' l' most win J' ∧ Jn J J' H) ∨ (copyN most far n l = none ∧ StmBad H' id inn most win 11))) n ?_ ?_
 ·exact ⟨0, rfl, by omega, rfl, Frm.refl, .inl ⟨l, J, o, rfl, hf, hst, Jn.refl⟩⟩
 ·rintro q e H' ⟨k, rfl, hk, rfl, hfr, hc⟩
  by_cases hlt : k < n
  ·rcases hc with ⟨l', J', o', c1, c2, hs, hj⟩ | ⟨c1, hb⟩
   ·have ho := hs.ob
    obtain ⟨b, hb⟩ : ∃ b, l'[l'.length - far]? = some b := ⟨_, List.getElem?_eq_getElem (by omega)⟩
    have hstep : copyN most far (n - k) l' = if most ≤ (l'.length : Int) then none else copyN most far (n - (k + 1)) (l' ++ [b]) := by
     rw [show n - k = (n - (k + 1)) + 1 by omega, copyN, hb]; rfl
    have hlen := hs.len
    have tail : ∀ H2 : List Ob, (if most ≤ (l'.length : Int) then H2 = H'.set id (stm inn at_ o' most win 11) else ∃ o2 j, H2[id]? = some (stm inn at_ o2 most win 0) ∧ Row8 H2 o2 (l' ++ [b]) (some j) ∧ j ≠ id ∧ (J' = some j ∨ H'.length ≤ j) ∧ (∀ i, i < H'.length → i ≠ id → J' ≠ some i → H2[i]? = H'[i]?) ∧ H'.length ≤ H2.length) →
     Frm id J H H2 ∧ ((∃ l' J' o', copyN most far n l = copyN most far (n - (k + 1)) l' ∧ far ≤ l'.length ∧ StmOk H2 id inn at_ o' l' most win J' ∧ Jn J J' H) ∨ (copyN most far n l = none ∧ StmBad H2 id inn most win 11)) := by
     intro H2 h2
     by_cases hmo : most ≤ (l'.length : Int)
     ·rw [if_pos hmo] at h2 hstep
      subst h2
      exact ⟨hfr.trans hj Frm.set, .inr ⟨by rw [c1, hstep], by simp, at_, o', hs.at_, hs.row.width1, by simp [hs.lt]⟩⟩
     ·rw [if_neg hmo] at h2 hstep
      obtain ⟨o2, j, g1, g2, g3, g4, g5, g6⟩ := h2
      have hf2 : Frm id J' H' H2 := ⟨g6, g5⟩
      refine ⟨hfr.trans hj hf2, .inl ⟨l' ++ [b], some j, o2, by rw [c1, hstep], by simp; omega, ⟨g1, g2, by simpa using g3, hs.at_, by simp; omega⟩, Jn.trans hfr hj ?_⟩⟩
      rcases g4 with e | e
      ·exact .inl e.symm
      ·exact .inr fun j2 h2 => by cases h2; exact e
    have hrow := hs.row
    cases J' with
    | none =>
     obtain ⟨rfl, rfl⟩ := hrow
     simp at c2; omega
    | some j =>
     obtain ⟨v, rfl, hjo⟩ := hrow
     simp -dsimp (disch := first | assumption | omega | (simp only [vmLen]; done) | (simp only [vmLen]; omega)) only [↓vmPre, vmPost, vmWrd, vmDat, eq_self, forall_const, Nat.reduceLT, Nat.reduceEqDiff, Nat.reduceSub, Nat.reduceMul, Nat.reduceMod, Nat.reduceDiv, Nat.reducePow, UInt8.reduceToNat, Int.reduceEq, Int.reduceLT, Int.reduceLE, ↓reduceIte, Nat.reduceAdd, Int.reduceToNat, reduceCtorEq, Nat.reduceLeDiff, ↓u_ref1_Stream_symbols, ho, hjo, hb]
     refine VCalls.mono (sputV ho hs.row hs.ne (by omega) (by omega)) ?_
     intro x H2 hx
     simp only [ne_eq, not_true_eq_false, if_false] at hx
     obtain ⟨t1, t2⟩ := tail H2 hx
     simp -dsimp (disch := first | assumption | omega | (simp only [vmLen]; done) | (simp only [vmLen]; omega)) only [↓vmPre, vmPost, vmWrd, vmDat, eq_self, forall_const, Nat.reduceLT, Nat.reduceEqDiff, Nat.reduceSub, Nat.reduceMul, Nat.reduceMod, Nat.reduceDiv, Nat.reducePow, UInt8.reduceToNat, Int.reduceEq, Int.reduceLT, Int.reduceLE, ↓reduceIte, Nat.reduceAdd, Int.reduceToNat, reduceCtorEq, Nat.reduceLeDiff, ↓u_ref1_Stream_symbols]
     exact Rnd_keep (n - (k + 1)) (by omega) t1.1 ⟨k + 1, rfl, by omega, rfl, t1, t2⟩
   ·obtain ⟨b1, a2, o2, b2, b3, b4⟩ := hb
    simp -dsimp (disch := first | assumption | omega | (simp only [vmLen]; done) | (simp only [vmLen]; omega)) only [↓vmPre, vmPost, vmWrd, vmDat, eq_self, forall_const, Nat.reduceLT, Nat.reduceEqDiff, Nat.reduceSub, Nat.reduceMul, Nat.reduceMod, Nat.reduceDiv, Nat.reducePow, UInt8.reduceToNat, Int.reduceEq, Int.reduceLT, Int.reduceLE, ↓reduceIte, Nat.reduceAdd, Int.reduceToNat, reduceCtorEq, Nat.reduceLeDiff, ↓u_ref1_Stream_symbols, b4]
    exact Rnd_keep (n - (k + 1)) (by omega) hfr.1 ⟨k + 1, rfl, by omega, rfl, hfr, .inr ⟨c1, b1, a2, o2, b2, b3, b4⟩⟩
  ·have hkn : k = n := by omega
   subst hkn
   rcases hc with ⟨l', J', o', c1, c2, hs, hj⟩ | ⟨c1, hb⟩
   ·rw [Nat.sub_self, copyN] at c1
    simp -dsimp (disch := first | assumption | omega | (simp only [vmLen]; done) | (simp only [vmLen]; omega)) only [↓vmPre, vmPost, vmWrd, vmDat, eq_self, forall_const, Nat.reduceLT, Nat.reduceEqDiff, Nat.reduceSub, Nat.reduceMul, Nat.reduceMod, Nat.reduceDiv, Nat.reducePow, UInt8.reduceToNat, Int.reduceEq, Int.reduceLT, Int.reduceLE, ↓reduceIte, Nat.reduceAdd, Int.reduceToNat, reduceCtorEq, Nat.reduceLeDiff, ↓u_ref1_Stream_symbols]
    exact hok l' J' o' H' _ c1 hs hj hfr
   ·simp -dsimp (disch := first | assumption | omega | (simp only [vmLen]; done) | (simp only [vmLen]; omega)) only [↓vmPre, vmPost, vmWrd, vmDat, eq_self, forall_const, Nat.reduceLT, Nat.reduceEqDiff, Nat.reduceSub, Nat.reduceMul, Nat.reduceMod, Nat.reduceDiv, Nat.reducePow, UInt8.reduceToNat, Int.reduceEq, Int.reduceLT, Int.reduceLE, ↓reduceIte, Nat.reduceAdd, Int.reduceToNat, reduceCtorEq, Nat.reduceLeDiff, ↓u_ref1_Stream_symbols]
    exact herr H' _ c1 hb hfr
end Go.Proofs.YtfgljddikcghhaaDoor

