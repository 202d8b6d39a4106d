import Derived.Test.YtfgljddikcghhaaDoorVzRTold
namespace Go.Proofs.YtfgljddikcghhaaDoor
open Go.RowKit
variable [Globs]
set_option linter.unusedSectionVars false
set_option linter.unusedVariables false
set_option linter.unusedSimpArgs false

abbrev nilS : TV := .val (.slice none 0 0)
abbrev noCode : Ob := .obj 0 (.agg [nilS, nilS])
theorem rfill {id R1 R2 n m C W v what times : Nat} {row : List Nat} {H : List Ob} {Q : VEx → Env → List Ob → Prop} (hW : H[W]? = some (nsO v row)) (ht : times ≤ 1000) (hrow : row.length ≤ 1000)
  (hq : ∀ H' v' y, Frm W none H H' → H'[W]? = some (nsO v' (row ++ List.replicate times what)) → Q .nor [(0, .op id 0 []), (2, .op R1 0 []), (3, .op R2 0 []), (5, i64 (n : Int)), (6, i64 (m : Int)), (11, .op C 0 []), (13, .os 1 W v' [] 0 (row.length + times) (row.length + times)), (15, i64 (what : Int)), (16, i64 (times : Int)), (17, i64 (times : Int)), (143, y)] H') :
  vwp Tryd.prog (.loop [0, 2, 3, 5, 6, 11, 13, 15, 16, 17] c_ref1_Stream_told_L10) (Blk 5 Q) [(0, .op id 0 []), (2, .op R1 0 []), (3, .op R2 0 []), (5, i64 (n : Int)), (6, i64 (m : Int)), (11, .op C 0 []), (13, .os 1 W v [] 0 row.length row.length), (15, i64 (what : Int)), (16, i64 (times : Int)), (17, i64 ((0 : Nat) : Int))] H := by
 refine w_loop (fun q e H' => ∃ k v' : Nat, q = times - k ∧ k ≤ times ∧ e = [(0, .op id 0 []), (2, .op R1 0 []), (3, .op R2 0 []), (5, i64 (n : Int)), (6, i64 (m : Int)), (11, .op C 0 []), (13, .os 1 W v' [] 0 (row.length + k) (row.length + k)), (15, i64 (what : Int)), (16, i64 (times : Int)), (17, i64 (k : Int))] ∧ Frm W none H H' ∧ H'[W]? = some (nsO v' (row ++ List.replicate k what))) times ?_ ?_
 ·exact ⟨0, v, rfl, by omega, rfl, Frm.refl, by simpa using hW⟩
 ·rintro q e H' ⟨k, v', rfl, hk, rfl, hfr, h1⟩
  have hWl : W < H'.length := (List.getElem?_eq_some_iff.1 h1).1
  by_cases hlt : k < times
  ·have hll : (row ++ List.replicate k what).length = row.length + k := by simp
   simp -dsimp (disch := first | assumption | omega | (simp only [vmLen]; done) | (simp only [vmLen]; omega)) only [↓vmPre, vmPost, vmWrd, vmDat, eq_self, forall_const, Nat.reduceLT, Nat.reduceEqDiff, Nat.reduceSub, Nat.reduceMul, Nat.reduceMod, Nat.reduceDiv, Nat.reducePow, UInt8.reduceToNat, Int.reduceEq, Int.reduceLT, Int.reduceLE, ↓reduceIte, Nat.reduceAdd, Int.reduceToNat, reduceCtorEq, Nat.reduceLeDiff, ↓u_ref1_Stream_told, h1, one_set, take_one', len_one, hll]
   refine Rnd_keep (times - (k + 1)) (by omega) (by have := hfr.1; simp; omega) ⟨k + 1, v' + 1, rfl, by omega, rfl, ?_, ?_⟩
   ·exact hfr.trans Jn.refl ⟨by simp, fun i hi h2 _ => by rw [List.getElem?_append_left (by simpa using hi), List.getElem?_set_ne (Ne.symm h2)]⟩
   ·rw [List.getElem?_append_left (by simpa using hWl), List.getElem?_set_self hWl, List.replicate_succ', ← List.append_assoc]
    simp; omega
  ·have hkn : k = times := by omega
   subst hkn
   simp -dsimp (disch := first | assumption | omega | (simp only [vmLen]; done) | (simp only [vmLen]; omega)) only [↓vmPre, vmPost, vmWrd, vmDat, eq_self, forall_const, Nat.reduceLT, Nat.reduceEqDiff, Nat.reduceSub, Nat.reduceMul, Nat.reduceMod, Nat.reduceDiv, Nat.reducePow, UInt8.reduceToNat, Int.reduceEq, Int.reduceLT, Int.reduceLE, ↓reduceIte, Nat.reduceAdd, Int.reduceToNat, reduceCtorEq, Nat.reduceLeDiff, ↓u_ref1_Stream_told]
   exact hq H' v' _ hfr h1
/-- Behind a symbol: how often what. -/
theorem rk11 {id R1 R2 n m C W v what times at_ : Nat} {inn l : List UInt8} {o : TV} {most win : Int} {J : Option Nat} {ok : Bool} {row : List Nat} {E : Env} {H : List Ob} {Q : VEx → Env → List Ob → Prop} (hs : StmX H id inn at_ o l most win J ok) (hR1 : H[R1]? = some noCode) (hR2 : H[R2]? = some noCode) (hW : H[W]? = some (nsO v row)) (ht : times ≤ 1000) (hrow : row.length ≤ 1000) (hn : n ≤ 1000 ∧ m ≤ 1000)
  (hbad : ok = false ∨ n + m < row.length + times → Q .ret [(2, .op R1 0 []), (3, .op R2 0 []), (4, tb false)] H)
  (hgood : ok = true → row.length + times ≤ n + m → ∀ H' v' y, Frm W none H H' → H'[W]? = some (nsO v' (row ++ List.replicate times what)) → Q .nor [(0, .op id 0 []), (2, .op R1 0 []), (3, .op R2 0 []), (5, i64 (n : Int)), (6, i64 (m : Int)), (11, .op C 0 []), (13, .os 1 W v' [] 0 (row.length + times) (row.length + times)), (15, i64 (what : Int)), (16, i64 (times : Int)), (17, i64 (times : Int)), (143, y)] H') :
  vwp Tryd.prog c_ref1_Stream_told_k11 Q ((0, .op id 0 []) :: (2, .op R1 0 []) :: (3, .op R2 0 []) :: (5, i64 (n : Int)) :: (6, i64 (m : Int)) :: (11, .op C 0 []) :: (13, .os 1 W v [] 0 row.length row.length) :: (15, i64 (what : Int)) :: (16, i64 (times : Int)) :: E) H := by
 have ho := hs.ob
 have hw := hs.row.width1
 have hR1l := (List.getElem?_eq_some_iff.1 hR1).1
 have hR2l := (List.getElem?_eq_some_iff.1 hR2).1
 cases ok with
 | false =>
  simp only [Bool.false_eq_true, if_false] at ho
  simp -dsimp (disch := first | assumption | omega | (simp only [vmLen]; done) | (simp only [vmLen]; omega)) only [↓vmPre, vmPost, vmWrd, vmDat, eq_self, forall_const, Nat.reduceLT, Nat.reduceEqDiff, Nat.reduceSub, Nat.reduceMul, Nat.reduceMod, Nat.reduceDiv, Nat.reducePow, UInt8.reduceToNat, Int.reduceEq, Int.reduceLT, Int.reduceLE, ↓reduceIte, Nat.reduceAdd, Int.reduceToNat, reduceCtorEq, Nat.reduceLeDiff, ↓u_ref1_Stream_told, ho, hw, hR1, hR2, set_same hR1, set_same hR2]
  exact hbad (.inl rfl)
 | true =>
  simp only [if_true] at ho
  by_cases hc : n + m < row.length + times
  ·simp -dsimp (disch := first | assumption | omega | (simp only [vmLen]; done) | (simp only [vmLen]; omega)) only [↓vmPre, vmPost, vmWrd, vmDat, eq_self, forall_const, Nat.reduceLT, Nat.reduceEqDiff, Nat.reduceSub, Nat.reduceMul, Nat.reduceMod, Nat.reduceDiv, Nat.reducePow, UInt8.reduceToNat, Int.reduceEq, Int.reduceLT, Int.reduceLE, ↓reduceIte, Nat.reduceAdd, Int.reduceToNat, reduceCtorEq, Nat.reduceLeDiff, ↓u_ref1_Stream_told, ho, hw, hR1, hR2, set_same hR1, set_same hR2]
   exact hbad (.inr hc)
  ·simp -dsimp (disch := first | assumption | omega | (simp only [vmLen]; done) | (simp only [vmLen]; omega)) only [↓vmPre, vmPost, vmWrd, vmDat, eq_self, forall_const, Nat.reduceLT, Nat.reduceEqDiff, Nat.reduceSub, Nat.reduceMul, Nat.reduceMod, Nat.reduceDiv, Nat.reducePow, UInt8.reduceToNat, Int.reduceEq, Int.reduceLT, Int.reduceLE, ↓reduceIte, Nat.reduceAdd, Int.reduceToNat, reduceCtorEq, Nat.reduceLeDiff, ↓u_ref1_Stream_told, ho, hw]
   refine rfill hW ht hrow fun H' v' y h1 h2 => ?_
   exact hgood rfl (by omega) H' v' y h1 h2
set_option maxHeartbeats 400000 in
/-- The rows. -/
theorem rrows {id R1 R2 n m C W v at_ : Nat} {inn l : List UInt8} {o : TV} {most win : Int} {J : Option Nat} {cl cb : List Nat} {E : Env} {H : List Ob} {Q : VEx → Env → List Ob → Prop} (hE : forget [0, 2, 3, 5, 6, 11, 13] E = [(0, .op id 0 []), (2, .op R1 0 []), (3, .op R2 0 []), (5, i64 (n : Int)), (6, i64 (m : Int)), (11, .op C 0 []), (13, .os 1 W v [] 0 0 0)]) (hst : StmOk H id inn at_ o l most win J) (hi : inn.length ≤ 1000000) (hlen : cl.length = cb.length) (hl3 : cl.length ≤ 1000) (hn : n ≤ 500 ∧ m ≤ 400)
  (hR1 : H[R1]? = some noCode) (hR2 : H[R2]? = some noCode) (hC : H[C]? = some (.obj 0 (.agg [nats cl, nats cb]))) (hW : H[W]? = some (nsO v [])) (hne : R1 ≠ id ∧ R2 ≠ id ∧ C ≠ id ∧ W ≠ id ∧ R1 ≠ W ∧ R2 ≠ W ∧ C ≠ W ∧ J ≠ some W)
  (hbad : rowsP (rdC cl cb) (n + m) (n + m + 1) ((allB inn).drop at_) [] = none → ∀ H', Frm id (some W) H H' → ((∃ at2, StmOk H' id inn at2 o l most win J) ∨ StmBad H' id inn most win 10) → Q .ret [(2, .op R1 0 []), (3, .op R2 0 []), (4, tb false)] H')
  (hgood : ∀ row at2, rowsP (rdC cl cb) (n + m) (n + m + 1) ((allB inn).drop at_) [] = some (row, (allB inn).drop at2) → row.length = n + m → ∀ H' v' y, Frm id (some W) H H' → StmOk H' id inn at2 o l most win J → H'[W]? = some (nsO v' row) → Q .nor [(0, .op id 0 []), (2, .op R1 0 []), (3, .op R2 0 []), (5, i64 (n : Int)), (6, i64 (m : Int)), (11, .op C 0 []), (13, .os 1 W v' [] 0 row.length row.length), (82, y)] H') :
  vwp Tryd.prog (.loop [0, 2, 3, 5, 6, 11, 13] c_ref1_Stream_told_L16) (Blk 2 Q) E H := by
 obtain ⟨hn1, hn2, hn3, hn4, hn5, hn6, hn7, hn8⟩ := hne
 obtain ⟨R, hR0⟩ : ∃ R, R = rowsP (rdC cl cb) (n + m) (n + m + 1) ((allB inn).drop at_) [] := ⟨_, rfl⟩
 rw [← hR0] at hbad hgood
 refine w_loop (fun q e H' => ∃ (at1 v' : Nat) (row : List Nat), R = rowsP (rdC cl cb) (n + m) q ((allB inn).drop at1) row ∧ n + m - row.length < q ∧ row.length ≤ n + m ∧ e = [(0, .op id 0 []), (2, .op R1 0 []), (3, .op R2 0 []), (5, i64 (n : Int)), (6, i64 (m : Int)), (11, .op C 0 []), (13, .os 1 W v' [] 0 row.length row.length)] ∧ Frm id (some W) H H' ∧ StmOk H' id inn at1 o l most win J ∧ H'[W]? = some (nsO v' row)) (n + m + 1) ?_ ?_
 ·exact ⟨at_, v, [], hR0, by simp, by simp, hE, Frm.refl, hst, hW⟩
 ·rintro q e H' ⟨at1, v', row, hR, hq, hrl, rfl, hfr, hs, hW'⟩
  obtain ⟨f, rfl⟩ : ∃ f, q = f + 1 := ⟨q - 1, by omega⟩
  rw [rowsP] at hR
  by_cases htot : n + m ≤ row.length
  ·rw [if_pos htot] at hR
   simp -dsimp (disch := first | assumption | omega | (simp only [vmLen]; done) | (simp only [vmLen]; omega)) only [↓vmPre, vmPost, vmWrd, vmDat, eq_self, forall_const, Nat.reduceLT, Nat.reduceEqDiff, Nat.reduceSub, Nat.reduceMul, Nat.reduceMod, Nat.reduceDiv, Nat.reducePow, UInt8.reduceToNat, Int.reduceEq, Int.reduceLT, Int.reduceLE, ↓reduceIte, Nat.reduceAdd, Int.reduceToNat, reduceCtorEq, Nat.reduceLeDiff, ↓u_ref1_Stream_told]
   exact hgood row at1 hR (by omega) H' v' _ hfr hs hW'
  rw [if_neg htot] at hR
  have keep : ∀ {H2 k x}, Frm id (some W) H H2 → H[k]? = some x → k ≠ id → k ≠ W → H2[k]? = some x := fun {H2 k x} hf hk h1 h2 => by
   rw [hf.2 k (List.getElem?_eq_some_iff.1 hk).1 h1 (by simpa using Ne.symm h2)]; exact hk
  have hC' := keep hfr hC hn3 hn7
  simp -dsimp (disch := first | assumption | omega | (simp only [vmLen]; done) | (simp only [vmLen]; omega)) only [↓vmPre, vmPost, vmWrd, vmDat, eq_self, forall_const, Nat.reduceLT, Nat.reduceEqDiff, Nat.reduceSub, Nat.reduceMul, Nat.reduceMod, Nat.reduceDiv, Nat.reducePow, UInt8.reduceToNat, Int.reduceEq, Int.reduceLT, Int.reduceLE, ↓reduceIte, Nat.reduceAdd, Int.reduceToNat, reduceCtorEq, Nat.reduceLeDiff, ↓u_ref1_Stream_told, hC']
  refine VCalls.mono (rsymS hs hi hlen hl3) ?_
  rintro x H2 ⟨hf2, hx⟩
  have hfr2 : Frm id (some W) H H2 := hfr.trans Jn.refl hf2.weak
  have hR1' := keep hfr2 hR1 hn1 hn5
  have hR2' := keep hfr2 hR2 hn2 hn6
  have hR1l := (List.getElem?_eq_some_iff.1 hR1').1
  have hR2l := (List.getElem?_eq_some_iff.1 hR2').1
  have hW2 : H2[W]? = some (nsO v' row) := by rw [hf2.2 W (List.getElem?_eq_some_iff.1 hW').1 hn4 (by simp)]; exact hW'
  split at hx
  case h_2 hnone =>
   rw [hnone] at hR
   obtain ⟨rfl, hb⟩ := hx
   have hb' := hb
   obtain ⟨b1, a2, o2, b2, b3, b4⟩ := hb
   simp -dsimp (disch := first | assumption | omega | (simp only [vmLen]; done) | (simp only [vmLen]; omega)) only [↓vmPre, vmPost, vmWrd, vmDat, eq_self, forall_const, Nat.reduceLT, Nat.reduceEqDiff, Nat.reduceSub, Nat.reduceMul, Nat.reduceMod, Nat.reduceDiv, Nat.reducePow, UInt8.reduceToNat, Int.reduceEq, Int.reduceLT, Int.reduceLE, ↓reduceIte, Nat.reduceAdd, Int.reduceToNat, reduceCtorEq, Nat.reduceLeDiff, ↓u_ref1_Stream_told, b4, b3, hR1', hR2', set_same hR1', set_same hR2']
   exact hbad hR H2 hfr2 (.inr hb')
  rename_i y B1 hsome
  obtain ⟨rfl, hyl, n1, hn1', rfl, hs2⟩ := hx
  rw [hsome] at hR
  have ho2 := hs2.ob
  have hw2 := hs2.row.width1
  simp only at hR
  have hst17 : ∀ r : List Nat, stepR 17 r = some (3, 3, 0) := fun r => by simp [stepR]
  have hst18 : ∀ r : List Nat, stepR 18 r = some (7, 11, 0) := fun r => by simp [stepR]
  by_cases hy16 : y = 16
  ·subst hy16
   by_cases hre : row = []
   ·subst hre
    rw [show stepR 16 [] = none by simp [stepR]] at hR
    simp -dsimp (disch := first | assumption | omega | (simp only [vmLen]; done) | (simp only [vmLen]; omega)) only [↓vmPre, vmPost, vmWrd, vmDat, eq_self, forall_const, Nat.reduceLT, Nat.reduceEqDiff, Nat.reduceSub, Nat.reduceMul, Nat.reduceMod, Nat.reduceDiv, Nat.reducePow, UInt8.reduceToNat, Int.reduceEq, Int.reduceLT, Int.reduceLE, ↓reduceIte, Nat.reduceAdd, Int.reduceToNat, reduceCtorEq, Nat.reduceLeDiff, ↓u_ref1_Stream_told, ho2, hw2, hR1', hR2', set_same hR1', set_same hR2']
    exact hbad hR H2 hfr2 (.inl ⟨_, hs2⟩)
   have hrow0 : 0 < row.length := List.length_pos_iff.2 hre
   obtain ⟨lw, hlw⟩ : ∃ lw, row[row.length - 1]? = some lw := ⟨_, List.getElem?_eq_getElem (by omega)⟩
   rw [show stepR 16 row = some (2, 3, lw) by simp [stepR, List.getLast?_eq_getElem?, hlw]] at hR
   simp only at hR
   simp -dsimp (disch := first | assumption | omega | (simp only [vmLen]; done) | (simp only [vmLen]; omega)) only [↓vmPre, vmPost, vmWrd, vmDat, eq_self, forall_const, Nat.reduceLT, Nat.reduceEqDiff, Nat.reduceSub, Nat.reduceMul, Nat.reduceMod, Nat.reduceDiv, Nat.reducePow, UInt8.reduceToNat, Int.reduceEq, Int.reduceLT, Int.reduceLE, ↓reduceIte, Nat.reduceAdd, Int.reduceToNat, reduceCtorEq, Nat.reduceLeDiff, ↓u_ref1_Stream_told, ho2, hw2, hW2, hlw]
   refine VCalls.mono (sbitsX (n := 2) hs2.x (by omega) hi) ?_
   rintro x H3 ⟨g1, g2, g3, hx⟩
   rw [Bool.true_and] at g3 hx
   obtain ⟨tv, htv⟩ : ∃ tv : Nat, tv = (if decide (2 ≤ ((allB inn).drop (at1 + n1)).length) = true then valN (((allB inn).drop (at1 + n1)).take 2) else 0) := ⟨_, rfl⟩
   rw [← htv] at hx
   subst hx
   have htvl : tv ≤ 128 := by
    have := bits_le 2 ((allB inn).drop (at1 + n1))
    rw [htv]; split <;> omega
   have hR1'' : H3[R1]? = some noCode := by rw [g1.2 R1 hR1l hn1 (by simp)]; exact hR1'
   have hR2'' : H3[R2]? = some noCode := by rw [g1.2 R2 hR2l hn2 (by simp)]; exact hR2'
   have hW3 : H3[W]? = some (nsO v' row) := by rw [g1.2 W (List.getElem?_eq_some_iff.1 hW2).1 hn4 (by simp)]; exact hW2
   have hRn : (decide (2 ≤ ((allB inn).drop (at1 + n1)).length) = false ∨ n + m < row.length + (3 + tv)) → R = none := by
    intro hb
    rw [hR]
    by_cases hok : 2 ≤ ((allB inn).drop (at1 + n1)).length
    ·rw [decide_eq_true hok, if_pos rfl] at htv
     rcases hb with hb | hb
     ·exact absurd hok (by simpa using hb)
     ·rw [if_neg (by omega), if_pos (by rw [← htv]; exact hb)]
    ·rw [if_pos (by omega)]
   have hRs : decide (2 ≤ ((allB inn).drop (at1 + n1)).length) = true → row.length + (3 + tv) ≤ n + m → R = rowsP (rdC cl cb) (n + m) f ((allB inn).drop (at1 + n1 + 2)) (row ++ List.replicate (3 + tv) lw) := by
    intro hok hle
    rw [hok, if_pos rfl] at htv
    have hok' := of_decide_eq_true hok
    rw [hR, if_neg (by omega), ← htv, if_neg (by omega), List.drop_drop]
   simp -dsimp (disch := first | assumption | omega | (simp only [vmLen]; done) | (simp only [vmLen]; omega)) only [↓vmPre, vmPost, vmWrd, vmDat, eq_self, forall_const, Nat.reduceLT, Nat.reduceEqDiff, Nat.reduceSub, Nat.reduceMul, Nat.reduceMod, Nat.reduceDiv, Nat.reducePow, UInt8.reduceToNat, Int.reduceEq, Int.reduceLT, Int.reduceLE, ↓reduceIte, Nat.reduceAdd, Int.reduceToNat, reduceCtorEq, Nat.reduceLeDiff]
   refine rk11 (n := n) (m := m) (C := C) (what := lw) (times := 3 + tv) g3 hR1'' hR2'' hW3 (by omega) (by omega) (by omega) ?_ ?_
   ·intro hb
    refine hbad (hRn hb) H3 (hfr2.trans Jn.refl g1.weak) ?_
    rcases hb with hb | hb
    ·rw [hb] at g3; exact .inr g3.bad
    ·by_cases hok : 2 ≤ ((allB inn).drop (at1 + n1)).length
     ·rw [decide_eq_true hok] at g3; exact .inl ⟨_, g3.ok⟩
     ·rw [decide_eq_false hok] at g3; exact .inr g3.bad
   ·intro hok hle H4 v4 y4 k1 k2
    have hfr4 : Frm id (some W) H H4 := ⟨Nat.le_trans hfr2.1 (Nat.le_trans g1.1 k1.1), fun i hi h1 h2 => by
     have hiW : i ≠ W := fun e => h2 (by rw [e])
     rw [k1.2 i (by have := hfr2.1; omega) hiW (by simp), g1.2 i (by have := hfr2.1; omega) h1 (by simp)]
     exact hfr2.2 i hi h1 h2⟩
    rw [hok] at g3
    have hs4 := (g3.keep (H' := H4) fun i hi => k1.2 i (by rcases hi with rfl | hi; exact g3.lt; exact g3.jlt hi) (by rcases hi with rfl | hi; exact Ne.symm hn4; exact fun e => hn8 (by rw [hi, e])) (by simp)).ok
    simp -dsimp (disch := first | assumption | omega | (simp only [vmLen]; done) | (simp only [vmLen]; omega)) only [↓vmPre, vmPost, vmWrd, vmDat, eq_self, forall_const, Nat.reduceLT, Nat.reduceEqDiff, Nat.reduceSub, Nat.reduceMul, Nat.reduceMod, Nat.reduceDiv, Nat.reducePow, UInt8.reduceToNat, Int.reduceEq, Int.reduceLT, Int.reduceLE, ↓reduceIte, Nat.reduceAdd, Int.reduceToNat, reduceCtorEq, Nat.reduceLeDiff]
    refine Rnd_keep f (by omega) (by have := hfr4.1; have := hfr.1; have := k1.1; have := g1.1; have := hf2.1; omega) ⟨_, v4, row ++ List.replicate (3 + tv) lw, hRs hok hle, by simp; omega, by simp; omega, by rw [List.length_append, List.length_replicate]; rfl, hfr4, hs4, k2⟩
  by_cases hy17 : y = 17
  ·subst hy17
   rw [hst17] at hR
   simp only at hR
   simp -dsimp (disch := first | assumption | omega | (simp only [vmLen]; done) | (simp only [vmLen]; omega)) only [↓vmPre, vmPost, vmWrd, vmDat, eq_self, forall_const, Nat.reduceLT, Nat.reduceEqDiff, Nat.reduceSub, Nat.reduceMul, Nat.reduceMod, Nat.reduceDiv, Nat.reducePow, UInt8.reduceToNat, Int.reduceEq, Int.reduceLT, Int.reduceLE, ↓reduceIte, Nat.reduceAdd, Int.reduceToNat, reduceCtorEq, Nat.reduceLeDiff, ↓u_ref1_Stream_told, ho2, hw2]
   refine VCalls.mono (sbitsX (n := 3) hs2.x (by omega) hi) ?_
   rintro x H3 ⟨g1, g2, g3, hx⟩
   rw [Bool.true_and] at g3 hx
   obtain ⟨tv, htv⟩ : ∃ tv : Nat, tv = (if decide (3 ≤ ((allB inn).drop (at1 + n1)).length) = true then valN (((allB inn).drop (at1 + n1)).take 3) else 0) := ⟨_, rfl⟩
   rw [← htv] at hx
   subst hx
   have htvl : tv ≤ 128 := by
    have := bits_le 3 ((allB inn).drop (at1 + n1))
    rw [htv]; split <;> omega
   have hR1'' : H3[R1]? = some noCode := by rw [g1.2 R1 hR1l hn1 (by simp)]; exact hR1'
   have hR2'' : H3[R2]? = some noCode := by rw [g1.2 R2 hR2l hn2 (by simp)]; exact hR2'
   have hW3 : H3[W]? = some (nsO v' row) := by rw [g1.2 W (List.getElem?_eq_some_iff.1 hW2).1 hn4 (by simp)]; exact hW2
   have hRn : (decide (3 ≤ ((allB inn).drop (at1 + n1)).length) = false ∨ n + m < row.length + (3 + tv)) → R = none := by
    intro hb
    rw [hR]
    by_cases hok : 3 ≤ ((allB inn).drop (at1 + n1)).length
    ·rw [decide_eq_true hok, if_pos rfl] at htv
     rcases hb with hb | hb
     ·exact absurd hok (by simpa using hb)
     ·rw [if_neg (by omega), if_pos (by rw [← htv]; exact hb)]
    ·rw [if_pos (by omega)]
   have hRs : decide (3 ≤ ((allB inn).drop (at1 + n1)).length) = true → row.length + (3 + tv) ≤ n + m → R = rowsP (rdC cl cb) (n + m) f ((allB inn).drop (at1 + n1 + 3)) (row ++ List.replicate (3 + tv) 0) := by
    intro hok hle
    rw [hok, if_pos rfl] at htv
    have hok' := of_decide_eq_true hok
    rw [hR, if_neg (by omega), ← htv, if_neg (by omega), List.drop_drop]
   simp -dsimp (disch := first | assumption | omega | (simp only [vmLen]; done) | (simp only [vmLen]; omega)) only [↓vmPre, vmPost, vmWrd, vmDat, eq_self, forall_const, Nat.reduceLT, Nat.reduceEqDiff, Nat.reduceSub, Nat.reduceMul, Nat.reduceMod, Nat.reduceDiv, Nat.reducePow, UInt8.reduceToNat, Int.reduceEq, Int.reduceLT, Int.reduceLE, ↓reduceIte, Nat.reduceAdd, Int.reduceToNat, reduceCtorEq, Nat.reduceLeDiff]
   refine rk11 (n := n) (m := m) (C := C) (what := 0) (times := 3 + tv) g3 hR1'' hR2'' hW3 (by omega) (by omega) (by omega) ?_ ?_
   ·intro hb
    refine hbad (hRn hb) H3 (hfr2.trans Jn.refl g1.weak) ?_
    rcases hb with hb | hb
    ·rw [hb] at g3; exact .inr g3.bad
    ·by_cases hok : 3 ≤ ((allB inn).drop (at1 + n1)).length
     ·rw [decide_eq_true hok] at g3; exact .inl ⟨_, g3.ok⟩
     ·rw [decide_eq_false hok] at g3; exact .inr g3.bad
   ·intro hok hle H4 v4 y4 k1 k2
    have hfr4 : Frm id (some W) H H4 := ⟨Nat.le_trans hfr2.1 (Nat.le_trans g1.1 k1.1), fun i hi h1 h2 => by
     have hiW : i ≠ W := fun e => h2 (by rw [e])
     rw [k1.2 i (by have := hfr2.1; omega) hiW (by simp), g1.2 i (by have := hfr2.1; omega) h1 (by simp)]
     exact hfr2.2 i hi h1 h2⟩
    rw [hok] at g3
    have hs4 := (g3.keep (H' := H4) fun i hi => k1.2 i (by rcases hi with rfl | hi; exact g3.lt; exact g3.jlt hi) (by rcases hi with rfl | hi; exact Ne.symm hn4; exact fun e => hn8 (by rw [hi, e])) (by simp)).ok
    simp -dsimp (disch := first | assumption | omega | (simp only [vmLen]; done) | (simp only [vmLen]; omega)) only [↓vmPre, vmPost, vmWrd, vmDat, eq_self, forall_const, Nat.reduceLT, Nat.reduceEqDiff, Nat.reduceSub, Nat.reduceMul, Nat.reduceMod, Nat.reduceDiv, Nat.reducePow, UInt8.reduceToNat, Int.reduceEq, Int.reduceLT, Int.reduceLE, ↓reduceIte, Nat.reduceAdd, Int.reduceToNat, reduceCtorEq, Nat.reduceLeDiff]
    refine Rnd_keep f (by omega) (by have := hfr4.1; have := hfr.1; have := k1.1; have := g1.1; have := hf2.1; omega) ⟨_, v4, row ++ List.replicate (3 + tv) 0, hRs hok hle, by simp; omega, by simp; omega, by rw [List.length_append, List.length_replicate]; rfl, hfr4, hs4, k2⟩
  by_cases hy18 : y = 18
  ·subst hy18
   rw [hst18] at hR
   simp only at hR
   simp -dsimp (disch := first | assumption | omega | (simp only [vmLen]; done) | (simp only [vmLen]; omega)) only [↓vmPre, vmPost, vmWrd, vmDat, eq_self, forall_const, Nat.reduceLT, Nat.reduceEqDiff, Nat.reduceSub, Nat.reduceMul, Nat.reduceMod, Nat.reduceDiv, Nat.reducePow, UInt8.reduceToNat, Int.reduceEq, Int.reduceLT, Int.reduceLE, ↓reduceIte, Nat.reduceAdd, Int.reduceToNat, reduceCtorEq, Nat.reduceLeDiff, ↓u_ref1_Stream_told, ho2, hw2]
   refine VCalls.mono (sbitsX (n := 7) hs2.x (by omega) hi) ?_
   rintro x H3 ⟨g1, g2, g3, hx⟩
   rw [Bool.true_and] at g3 hx
   obtain ⟨tv, htv⟩ : ∃ tv : Nat, tv = (if decide (7 ≤ ((allB inn).drop (at1 + n1)).length) = true then valN (((allB inn).drop (at1 + n1)).take 7) else 0) := ⟨_, rfl⟩
   rw [← htv] at hx
   subst hx
   have htvl : tv ≤ 128 := by
    have := bits_le 7 ((allB inn).drop (at1 + n1))
    rw [htv]; split <;> omega
   have hR1'' : H3[R1]? = some noCode := by rw [g1.2 R1 hR1l hn1 (by simp)]; exact hR1'
   have hR2'' : H3[R2]? = some noCode := by rw [g1.2 R2 hR2l hn2 (by simp)]; exact hR2'
   have hW3 : H3[W]? = some (nsO v' row) := by rw [g1.2 W (List.getElem?_eq_some_iff.1 hW2).1 hn4 (by simp)]; exact hW2
   have hRn : (decide (7 ≤ ((allB inn).drop (at1 + n1)).length) = false ∨ n + m < row.length + (11 + tv)) → R = none := by
    intro hb
    rw [hR]
    by_cases hok : 7 ≤ ((allB inn).drop (at1 + n1)).length
    ·rw [decide_eq_true hok, if_pos rfl] at htv
     rcases hb with hb | hb
     ·exact absurd hok (by simpa using hb)
     ·rw [if_neg (by omega), if_pos (by rw [← htv]; exact hb)]
    ·rw [if_pos (by omega)]
   have hRs : decide (7 ≤ ((allB inn).drop (at1 + n1)).length) = true → row.length + (11 + tv) ≤ n + m → R = rowsP (rdC cl cb) (n + m) f ((allB inn).drop (at1 + n1 + 7)) (row ++ List.replicate (11 + tv) 0) := by
    intro hok hle
    rw [hok, if_pos rfl] at htv
    have hok' := of_decide_eq_true hok
    rw [hR, if_neg (by omega), ← htv, if_neg (by omega), List.drop_drop]
   simp -dsimp (disch := first | assumption | omega | (simp only [vmLen]; done) | (simp only [vmLen]; omega)) only [↓vmPre, vmPost, vmWrd, vmDat, eq_self, forall_const, Nat.reduceLT, Nat.reduceEqDiff, Nat.reduceSub, Nat.reduceMul, Nat.reduceMod, Nat.reduceDiv, Nat.reducePow, UInt8.reduceToNat, Int.reduceEq, Int.reduceLT, Int.reduceLE, ↓reduceIte, Nat.reduceAdd, Int.reduceToNat, reduceCtorEq, Nat.reduceLeDiff]
   refine rk11 (n := n) (m := m) (C := C) (what := 0) (times := 11 + tv) g3 hR1'' hR2'' hW3 (by omega) (by omega) (by omega) ?_ ?_
   ·intro hb
    refine hbad (hRn hb) H3 (hfr2.trans Jn.refl g1.weak) ?_
    rcases hb with hb | hb
    ·rw [hb] at g3; exact .inr g3.bad
    ·by_cases hok : 7 ≤ ((allB inn).drop (at1 + n1)).length
     ·rw [decide_eq_true hok] at g3; exact .inl ⟨_, g3.ok⟩
     ·rw [decide_eq_false hok] at g3; exact .inr g3.bad
   ·intro hok hle H4 v4 y4 k1 k2
    have hfr4 : Frm id (some W) H H4 := ⟨Nat.le_trans hfr2.1 (Nat.le_trans g1.1 k1.1), fun i hi h1 h2 => by
     have hiW : i ≠ W := fun e => h2 (by rw [e])
     rw [k1.2 i (by have := hfr2.1; omega) hiW (by simp), g1.2 i (by have := hfr2.1; omega) h1 (by simp)]
     exact hfr2.2 i hi h1 h2⟩
    rw [hok] at g3
    have hs4 := (g3.keep (H' := H4) fun i hi => k1.2 i (by rcases hi with rfl | hi; exact g3.lt; exact g3.jlt hi) (by rcases hi with rfl | hi; exact Ne.symm hn4; exact fun e => hn8 (by rw [hi, e])) (by simp)).ok
    simp -dsimp (disch := first | assumption | omega | (simp only [vmLen]; done) | (simp only [vmLen]; omega)) only [↓vmPre, vmPost, vmWrd, vmDat, eq_self, forall_const, Nat.reduceLT, Nat.reduceEqDiff, Nat.reduceSub, Nat.reduceMul, Nat.reduceMod, Nat.reduceDiv, Nat.reducePow, UInt8.reduceToNat, Int.reduceEq, Int.reduceLT, Int.reduceLE, ↓reduceIte, Nat.reduceAdd, Int.reduceToNat, reduceCtorEq, Nat.reduceLeDiff]
    refine Rnd_keep f (by omega) (by have := hfr4.1; have := hfr.1; have := k1.1; have := g1.1; have := hf2.1; omega) ⟨_, v4, row ++ List.replicate (11 + tv) 0, hRs hok hle, by simp; omega, by simp; omega, by rw [List.length_append, List.length_replicate]; rfl, hfr4, hs4, k2⟩
  rw [show stepR y row = some (0, 1, y) by simp [stepR, hy16, hy17, hy18]] at hR
  simp only [List.take_zero, valN, Nat.add_zero, Nat.not_lt_zero, if_false, List.drop_zero] at hR
  simp -dsimp (disch := first | assumption | omega | (simp only [vmLen]; done) | (simp only [vmLen]; omega)) only [↓vmPre, vmPost, vmWrd, vmDat, eq_self, forall_const, Nat.reduceLT, Nat.reduceEqDiff, Nat.reduceSub, Nat.reduceMul, Nat.reduceMod, Nat.reduceDiv, Nat.reducePow, UInt8.reduceToNat, Int.reduceEq, Int.reduceLT, Int.reduceLE, ↓reduceIte, Nat.reduceAdd, Int.reduceToNat, reduceCtorEq, Nat.reduceLeDiff, ↓u_ref1_Stream_told_k14_e, ↓u_ref1_Stream_told_k13_e, ↓u_ref1_Stream_told_k12_e, ↓u_ref1_Stream_told_k9_e, ↓u_ref1_Stream_told_b8_e, ↓u_ref1_Stream_told_k7_e, ↓u_ref1_Stream_told_b6_e, ↓u_ref1_Stream_told_k5_e, ↓u_ref1_Stream_told_b4_e, ho2, hw2]
  refine rk11 (n := n) (m := m) (C := C) (what := y) (times := 1) hs2.x hR1' hR2' hW2 (by omega) (by omega) (by omega) ?_ ?_
  ·intro hb
   refine hbad ?_ H2 hfr2 (.inl ⟨_, hs2⟩)
   rw [hR, if_pos (by rcases hb with hb | hb; cases hb; exact hb)]
  ·intro _ hle H4 v4 y4 k1 k2
   have hfr4 : Frm id (some W) H H4 := ⟨Nat.le_trans hfr2.1 k1.1, fun i hi h1 h2 => by
    have hiW : i ≠ W := fun e => h2 (by rw [e])
    rw [k1.2 i (by have := hfr2.1; omega) hiW (by simp)]
    exact hfr2.2 i hi h1 h2⟩
   have hs4 := (hs2.x.keep (H' := H4) fun i hi => k1.2 i (by rcases hi with rfl | hi; exact hs2.lt; exact hs2.x.jlt hi) (by rcases hi with rfl | hi; exact Ne.symm hn4; exact fun e => hn8 (by rw [hi, e])) (by simp)).ok
   rw [if_neg (by omega)] at hR
   simp -dsimp (disch := first | assumption | omega | (simp only [vmLen]; done) | (simp only [vmLen]; omega)) only [↓vmPre, vmPost, vmWrd, vmDat, eq_self, forall_const, Nat.reduceLT, Nat.reduceEqDiff, Nat.reduceSub, Nat.reduceMul, Nat.reduceMod, Nat.reduceDiv, Nat.reducePow, UInt8.reduceToNat, Int.reduceEq, Int.reduceLT, Int.reduceLE, ↓reduceIte, Nat.reduceAdd, Int.reduceToNat, reduceCtorEq, Nat.reduceLeDiff]
   refine Rnd_keep f (by omega) (by have := hfr4.1; have := hfr.1; have := k1.1; have := hf2.1; omega) ⟨_, v4, row ++ List.replicate 1 y, hR, by simp; omega, by simp; omega, by rw [List.length_append, List.length_replicate]; rfl, hfr4, hs4, k2⟩
end Go.Proofs.YtfgljddikcghhaaDoor

