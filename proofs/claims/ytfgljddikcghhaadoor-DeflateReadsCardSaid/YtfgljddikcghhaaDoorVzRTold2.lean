import Derived.Test.YtfgljddikcghhaaDoorVzRRows
namespace Go.Proofs.YtfgljddikcghhaaDoor
open Go.RowKit
variable [Globs]
set_option linter.unusedSectionVars false
set_option linter.unusedVariables false
set_option linter.unusedSimpArgs false

def CodeV (x : TV) : Prop := x = .agg [nilS, nilS] ∨ ∃ ls bs, x = .agg [nats ls, nats bs]
abbrev codeR (ls : List Nat) : TV := .agg [nats ls, nats (CSt.all ls 15).bs]
/-- What told leaves behind. -/
def ToldPost (id : Nat) (inn : List UInt8) (o : TV) (l : List UInt8) (most win : Int) (J : Option Nat) (R : Option (List Nat × List Nat × List Bool)) (x : TV) (H' : List Ob) : Prop :=
 ∃ c d ok, x = .tup [c, d, tb ok] ∧ CodeV c ∧ CodeV d ∧
  ((ok = true ∧ ∃ a b at2, R = some (a, b, (allB inn).drop at2) ∧ StmOk H' id inn at2 o l most win J ∧ okC a true false = true ∧ okC b true true = true ∧ c = codeR a ∧ d = codeR b ∧ a.length ≤ 1000 ∧ b.length ≤ 1000) ∨
  (ok = false ∧ ((∃ at2, StmOk H' id inn at2 o l most win J) ∨ StmBad H' id inn most win 10) ∧ ∀ a b B, R = some (a, b, B) → (okC a true false && okC b true true) = false))
set_option maxHeartbeats 1000000 in
theorem rtoldV {id at_ : Nat} {inn l : List UInt8} {o : TV} {most win : Int} {J : Option Nat} {H : List Ob} (hst : StmOk H id inn at_ o l most win J) (hi : inn.length ≤ 1000000) :
  VCalls Tryd.prog 39 [.op id 0 []] H (fun x H' => Frm id none H H' ∧ ToldPost id inn o l most win J (toldP okC rdR ((allB inn).drop at_)) x H') := by
 have hid := hst.lt
 obtain ⟨R, hR⟩ : ∃ R, R = toldP okC rdR ((allB inn).drop at_) := ⟨_, rfl⟩
 rw [← hR]
 unfold toldP at hR
 have hlen : ((allB inn).drop at_).length = 8 * inn.length - at_ := by rw [List.length_drop, allB_len]
 refine go_ref1_Stream_told (by simp) ?_
 simp -dsimp (disch := first | assumption | omega | (simp only [vmLen]; done) | (simp only [vmLen]; omega)) only [↓vmPre, vmPost, vmWrd, vmDat, eq_self, forall_const, Nat.reduceLT, Nat.reduceEqDiff, Nat.reduceSub, Nat.reduceMul, Nat.reduceMod, Nat.reduceDiv, Nat.reducePow, UInt8.reduceToNat, Int.reduceEq, Int.reduceLT, Int.reduceLE, ↓reduceIte, Nat.reduceAdd, Int.reduceToNat, reduceCtorEq, Nat.reduceLeDiff, ↓u_ref1_Stream_told]
 obtain ⟨H1, hH1⟩ : ∃ H1 : List Ob, H1 = H ++ [noCode] ++ [noCode] := ⟨_, rfl⟩
 rw [← hH1]
 have hH1l : H1.length = H.length + 2 := by rw [hH1]; simp
 have hF1 : Frm id none H H1 := ⟨by omega, fun i hi _ _ => by rw [hH1, List.append_assoc, List.getElem?_append_left hi]⟩
 have hR1 : H1[H.length]? = some noCode := by rw [hH1, List.append_assoc, List.getElem?_append_right (Nat.le_refl _)]; simp
 have hR2 : H1[H.length + 1]? = some noCode := by rw [hH1, List.append_assoc, List.getElem?_append_right (by omega)]; simp
 have hs1 : StmX H1 id inn at_ o l most win J true := by rw [hH1]; exact hst.x.app.app
 have hw := hst.row.width1
 refine VCalls.mono (sbitsX (n := 5) hs1 (by omega) hi) ?_
 rintro x H2 ⟨f2, l2, s2, hx⟩
 rw [Bool.true_and] at hx s2
 obtain ⟨v1, hv1⟩ : ∃ v : Nat, v = (if decide (5 ≤ ((allB inn).drop at_).length) = true then valN (((allB inn).drop at_).take 5) else 0) := ⟨_, rfl⟩
 rw [← hv1] at hx
 subst hx
 have hv1l : v1 < 32 := by have := bits_le 5 ((allB inn).drop at_); rw [hv1]; split <;> omega
 simp -dsimp (disch := first | assumption | omega | (simp only [vmLen]; done) | (simp only [vmLen]; omega)) only [↓vmPre, vmPost, vmWrd, vmDat, eq_self, forall_const, Nat.reduceLT, Nat.reduceEqDiff, Nat.reduceSub, Nat.reduceMul, Nat.reduceMod, Nat.reduceDiv, Nat.reducePow, UInt8.reduceToNat, Int.reduceEq, Int.reduceLT, Int.reduceLE, ↓reduceIte, Nat.reduceAdd, Int.reduceToNat, reduceCtorEq, Nat.reduceLeDiff, ↓u_ref1_Stream_told]
 refine VCalls.mono (sbitsX (n := 5) s2 (by omega) hi) ?_
 rintro x H3 ⟨f3, l3, s3, hx⟩
 obtain ⟨v2, hv2⟩ : ∃ v : Nat, v = (if (decide (5 ≤ ((allB inn).drop at_).length) && decide (5 ≤ ((allB inn).drop (at_ + 5)).length)) = true then valN (((allB inn).drop (at_ + 5)).take 5) else 0) := ⟨_, rfl⟩
 rw [← hv2] at hx
 subst hx
 have hv2l : v2 < 32 := by have := bits_le 5 ((allB inn).drop (at_ + 5)); rw [hv2]; split <;> omega
 simp -dsimp (disch := first | assumption | omega | (simp only [vmLen]; done) | (simp only [vmLen]; omega)) only [↓vmPre, vmPost, vmWrd, vmDat, eq_self, forall_const, Nat.reduceLT, Nat.reduceEqDiff, Nat.reduceSub, Nat.reduceMul, Nat.reduceMod, Nat.reduceDiv, Nat.reducePow, UInt8.reduceToNat, Int.reduceEq, Int.reduceLT, Int.reduceLE, ↓reduceIte, Nat.reduceAdd, Int.reduceToNat, reduceCtorEq, Nat.reduceLeDiff, ↓u_ref1_Stream_told]
 refine VCalls.mono (sbitsX (n := 4) s3 (by omega) hi) ?_
 rintro x H4 ⟨f4, l4, s4, hx⟩
 obtain ⟨v3, hv3⟩ : ∃ v : Nat, v = (if (decide (5 ≤ ((allB inn).drop at_).length) && decide (5 ≤ ((allB inn).drop (at_ + 5)).length) && decide (4 ≤ ((allB inn).drop (at_ + 5 + 5)).length)) = true then valN (((allB inn).drop (at_ + 5 + 5)).take 4) else 0) := ⟨_, rfl⟩
 rw [← hv3] at hx
 subst hx
 have hv3l : v3 < 16 := by have := bits_le 4 ((allB inn).drop (at_ + 5 + 5)); rw [hv3]; split <;> omega
 have hok : (decide (5 ≤ ((allB inn).drop at_).length) && decide (5 ≤ ((allB inn).drop (at_ + 5)).length) && decide (4 ≤ ((allB inn).drop (at_ + 5 + 5)).length)) = decide (14 ≤ ((allB inn).drop at_).length) := by
  rw [← Bool.decide_and, ← Bool.decide_and]
  congr 1
  simp only [List.length_drop]
  apply propext; omega
 rw [hok] at s4 hv3
 have hF4 : Frm id none H1 H4 := (f2.trans Jn.refl f3).trans Jn.refl f4
 have hR1' : H4[H.length]? = some noCode := by rw [hF4.2 _ (by omega) (by omega) (by simp)]; exact hR1
 have hR2' : H4[H.length + 1]? = some noCode := by rw [hF4.2 _ (by omega) (by omega) (by simp)]; exact hR2
 have fin4 : ∀ {H'}, Frm id none H4 H' → Frm id none H H' := fun h => (hF1.trans Jn.refl hF4).trans Jn.refl h
 have hR1l : H.length < H4.length := by omega
 have hR2l : H.length + 1 < H4.length := by omega
 by_cases h14 : 14 ≤ ((allB inn).drop at_).length
 case neg =>
  rw [decide_eq_false h14] at s4
  have ho4 := s4.ob
  simp only [Bool.false_eq_true, if_false] at ho4
  rw [if_pos (by omega)] at hR
  simp -dsimp (disch := first | assumption | omega | (simp only [vmLen]; done) | (simp only [vmLen]; omega)) only [↓vmPre, vmPost, vmWrd, vmDat, eq_self, forall_const, Nat.reduceLT, Nat.reduceEqDiff, Nat.reduceSub, Nat.reduceMul, Nat.reduceMod, Nat.reduceDiv, Nat.reducePow, UInt8.reduceToNat, Int.reduceEq, Int.reduceLT, Int.reduceLE, ↓reduceIte, Nat.reduceAdd, Int.reduceToNat, reduceCtorEq, Nat.reduceLeDiff, ↓u_ref1_Stream_told, ho4, hw, hR1', hR2', set_same hR1', set_same hR2']
  exact ⟨fin4 Frm.refl, _, _, false, rfl, .inl rfl, .inl rfl, .inr ⟨rfl, .inr s4.bad, fun a b B h => by rw [hR] at h; cases h⟩⟩
 rw [decide_eq_true h14] at s4 hv3
 rw [if_pos rfl] at hv3
 rw [decide_eq_true (by omega : 5 ≤ ((allB inn).drop at_).length), if_pos rfl] at hv1
 rw [decide_eq_true (by omega : 5 ≤ ((allB inn).drop at_).length), decide_eq_true (by rw [List.length_drop] at h14 ⊢; omega : 5 ≤ ((allB inn).drop (at_ + 5)).length), Bool.and_true, if_pos rfl] at hv2
 have ho4 := s4.ob
 simp only [if_true] at ho4
 rw [if_neg (by omega)] at hR
 simp only [List.drop_drop] at hR
 rw [show at_ + 5 + 5 = at_ + 10 by omega] at hv3
 rw [← hv1, ← hv2, ← hv3] at hR
 by_cases hlim : 286 < v1 + 257 ∨ 30 < v2 + 1
 ·rw [if_pos hlim] at hR
  have post : Frm id none H H4 ∧ ToldPost id inn o l most win J R (.tup [.agg [nilS, nilS], .agg [nilS, nilS], tb false]) H4 := ⟨fin4 Frm.refl, _, _, false, rfl, .inl rfl, .inl rfl, .inr ⟨rfl, .inl ⟨_, s4.ok⟩, fun a b B h => by rw [hR] at h; cases h⟩⟩
  by_cases hl2 : 286 < v1 + 257
  ·simp -dsimp (disch := first | assumption | omega | (simp only [vmLen]; done) | (simp only [vmLen]; omega)) only [↓vmPre, vmPost, vmWrd, vmDat, eq_self, forall_const, Nat.reduceLT, Nat.reduceEqDiff, Nat.reduceSub, Nat.reduceMul, Nat.reduceMod, Nat.reduceDiv, Nat.reducePow, UInt8.reduceToNat, Int.reduceEq, Int.reduceLT, Int.reduceLE, ↓reduceIte, Nat.reduceAdd, Int.reduceToNat, reduceCtorEq, Nat.reduceLeDiff, ↓u_ref1_Stream_told, ho4, hw, hR1', hR2', set_same hR1', set_same hR2']
   exact post
  ·simp -dsimp (disch := first | assumption | omega | (simp only [vmLen]; done) | (simp only [vmLen]; omega)) only [↓vmPre, vmPost, vmWrd, vmDat, eq_self, forall_const, Nat.reduceLT, Nat.reduceEqDiff, Nat.reduceSub, Nat.reduceMul, Nat.reduceMod, Nat.reduceDiv, Nat.reducePow, UInt8.reduceToNat, Int.reduceEq, Int.reduceLT, Int.reduceLE, ↓reduceIte, Nat.reduceAdd, Int.reduceToNat, reduceCtorEq, Nat.reduceLeDiff, ↓u_ref1_Stream_told, ho4, hw, hR1', hR2', set_same hR1', set_same hR2']
   exact post
 rw [if_neg hlim] at hR
 have hlim1 : v1 + 257 ≤ 286 := by omega
 have hlim2 : v2 + 1 ≤ 30 := by omega
 simp -dsimp (disch := first | assumption | omega | (simp only [vmLen]; done) | (simp only [vmLen]; omega)) only [↓vmPre, vmPost, vmWrd, vmDat, eq_self, forall_const, Nat.reduceLT, Nat.reduceEqDiff, Nat.reduceSub, Nat.reduceMul, Nat.reduceMod, Nat.reduceDiv, Nat.reducePow, UInt8.reduceToNat, Int.reduceEq, Int.reduceLT, Int.reduceLE, ↓reduceIte, Nat.reduceAdd, Int.reduceToNat, reduceCtorEq, Nat.reduceLeDiff, ↓u_ref1_Stream_told, ho4, hw]
 have hJ4 : ∀ j, J = some j → j < H4.length := fun j hj => s4.jlt hj
 refine rthird (R1 := H.length) (R2 := H.length + 1) (O := H4.length) (T := H4.length + 1) (n := v1 + 257) (m := v2 + 1) (k := v3 + 4) (at_ := at_ + 14) (StmX.ok (by rw [show at_ + 14 = at_ + 5 + 5 + 4 by omega]; exact s4.app.app)) hi (by omega) ?_ ?_ ⟨by omega, by omega, by omega, fun e => by have := hJ4 _ e; omega⟩ ?_
 ·rw [List.append_assoc, List.getElem?_append_right (Nat.le_refl _), Nat.sub_self]; rfl
 ·rw [List.append_assoc, List.getElem?_append_right (by omega), Nat.add_sub_cancel_left]; rfl
 intro H5 L y hf5 hL hT5 hLe hs5
 have hF5 : Frm id none H4 H5 := ⟨by have := hf5.1; simp at this; omega, fun i hi h1 _ => by
  rw [hf5.2 i (by simp; omega) h1 (by simp; omega), List.append_assoc, List.getElem?_append_left hi]⟩
 have hl5 : H4.length + 2 ≤ H5.length := by have := hf5.1; simp at this; omega
 have hlen14 : ((allB inn).drop (at_ + 14)).length = ((allB inn).drop at_).length - 14 := by simp only [List.length_drop]; omega
 simp -dsimp (disch := first | assumption | omega | (simp only [vmLen]; done) | (simp only [vmLen]; omega)) only [↓vmPre, vmPost, vmWrd, vmDat, eq_self, forall_const, Nat.reduceLT, Nat.reduceEqDiff, Nat.reduceSub, Nat.reduceMul, Nat.reduceMod, Nat.reduceDiv, Nat.reducePow, UInt8.reduceToNat, Int.reduceEq, Int.reduceLT, Int.reduceLE, ↓reduceIte, Nat.reduceAdd, Int.reduceToNat, reduceCtorEq, Nat.reduceLeDiff, ↓u_ref1_Stream_told_k23_e]
 refine w_frz (by rfl) hT5 (by simp [hL]) ?_
 have htk : List.take 19 (List.drop 0 (L.map fun (n : Nat) => i64 (n : Int))) = L.map fun (n : Nat) => i64 (n : Int) := by rw [List.drop_zero, List.take_of_length_le (by simp [hL])]
 rw [htk]
 simp -dsimp (disch := first | assumption | omega | (simp only [vmLen]; done) | (simp only [vmLen]; omega)) only [↓vmPre, vmPost, vmWrd, vmDat, eq_self, forall_const, Nat.reduceLT, Nat.reduceEqDiff, Nat.reduceSub, Nat.reduceMul, Nat.reduceMod, Nat.reduceDiv, Nat.reducePow, UInt8.reduceToNat, Int.reduceEq, Int.reduceLT, Int.reduceLE, ↓reduceIte, Nat.reduceAdd, Int.reduceToNat, reduceCtorEq, Nat.reduceLeDiff]
 refine (rcodeV L false false (by omega)).calls rfl ?_
 rintro _ rfl
 obtain ⟨H6, hH6⟩ : ∃ H6 : List Ob, H6 = H5.set (H4.length + 1) (Ob.gone 0) ++ [Ob.obj 0 (.agg [nats L, nats (CSt.all L 15).bs])] := ⟨_, rfl⟩
 have hl6 : H6.length = H5.length + 1 := by rw [hH6]; simp
 have s6 : StmX H6 id inn (at_ + 14 + 3 * (v3 + 4)) o l most win J (decide (3 * (v3 + 4) ≤ ((allB inn).drop (at_ + 14)).length)) := by
  rw [hH6]
  exact (hs5.set (by omega) (fun e => by have := hJ4 _ e; omega)).app
 have hF6 : Frm id none H4 H6 := ⟨by omega, fun i hi h1 h2 => by
  rw [hH6, List.getElem?_append_left (by simp; omega), List.getElem?_set_ne (by omega)]
  exact hF5.2 i hi h1 h2⟩
 have hR16 : H6[H.length]? = some noCode := by rw [hF6.2 _ (by omega) (by omega) (by simp)]; exact hR1'
 have hR26 : H6[H.length + 1]? = some noCode := by rw [hF6.2 _ (by omega) (by omega) (by simp)]; exact hR2'
 have hR16l := (List.getElem?_eq_some_iff.1 hR16).1
 have hR26l := (List.getElem?_eq_some_iff.1 hR26).1
 have hC6 : H6[H5.length]? = some (Ob.obj 0 (.agg [nats L, nats (CSt.all L 15).bs])) := by rw [hH6, List.getElem?_append_right (by simp)]; simp
 have ho6 := s6.ob
 simp -dsimp (disch := first | assumption | omega | (simp only [vmLen]; done) | (simp only [vmLen]; omega)) only [↓vmPre, vmPost, vmWrd, vmDat, eq_self, forall_const, Nat.reduceLT, Nat.reduceEqDiff, Nat.reduceSub, Nat.reduceMul, Nat.reduceMod, Nat.reduceDiv, Nat.reducePow, UInt8.reduceToNat, Int.reduceEq, Int.reduceLT, Int.reduceLE, ↓reduceIte, Nat.reduceAdd, Int.reduceToNat, reduceCtorEq, Nat.reduceLeDiff, ↓u_ref1_Stream_told, ← hH6]
 by_cases hen : 14 + 3 * (v3 + 4) ≤ ((allB inn).drop at_).length
 case neg =>
  rw [if_pos (by omega)] at hR
  rw [decide_eq_false (by omega)] at s6 ho6
  simp only [Bool.false_eq_true, if_false] at ho6
  simp -dsimp (disch := first | assumption | omega | (simp only [vmLen]; done) | (simp only [vmLen]; omega)) only [↓vmPre, vmPost, vmWrd, vmDat, eq_self, forall_const, Nat.reduceLT, Nat.reduceEqDiff, Nat.reduceSub, Nat.reduceMul, Nat.reduceMod, Nat.reduceDiv, Nat.reducePow, UInt8.reduceToNat, Int.reduceEq, Int.reduceLT, Int.reduceLE, ↓reduceIte, Nat.reduceAdd, Int.reduceToNat, reduceCtorEq, Nat.reduceLeDiff, ↓u_ref1_Stream_told, ho6, hw, hR16, hR26, set_same hR16, set_same hR26]
  exact ⟨fin4 hF6, _, _, false, rfl, .inl rfl, .inl rfl, .inr ⟨rfl, .inr s6.bad, fun a b B h => by rw [hR] at h; cases h⟩⟩
 rw [if_neg (by omega)] at hR
 rw [decide_eq_true (by omega)] at s6 ho6
 simp only [if_true] at ho6
 rw [← hLe (by omega)] at hR
 cases hokL : okC L false false with
 | false =>
  rw [if_pos hokL] at hR
  simp -dsimp (disch := first | assumption | omega | (simp only [vmLen]; done) | (simp only [vmLen]; omega)) only [↓vmPre, vmPost, vmWrd, vmDat, eq_self, forall_const, Nat.reduceLT, Nat.reduceEqDiff, Nat.reduceSub, Nat.reduceMul, Nat.reduceMod, Nat.reduceDiv, Nat.reducePow, UInt8.reduceToNat, Int.reduceEq, Int.reduceLT, Int.reduceLE, ↓reduceIte, Nat.reduceAdd, Int.reduceToNat, reduceCtorEq, Nat.reduceLeDiff, ↓u_ref1_Stream_told, ho6, hw, hR16, hR26, set_same hR16, set_same hR26]
  exact ⟨fin4 hF6, _, _, false, rfl, .inl rfl, .inl rfl, .inr ⟨rfl, .inl ⟨_, s6.ok⟩, fun a b B h => by rw [hR] at h; cases h⟩⟩
 | true =>
 rw [if_neg (by rw [hokL]; simp)] at hR
 simp -dsimp (disch := first | assumption | omega | (simp only [vmLen]; done) | (simp only [vmLen]; omega)) only [↓vmPre, vmPost, vmWrd, vmDat, eq_self, forall_const, Nat.reduceLT, Nat.reduceEqDiff, Nat.reduceSub, Nat.reduceMul, Nat.reduceMod, Nat.reduceDiv, Nat.reducePow, UInt8.reduceToNat, Int.reduceEq, Int.reduceLT, Int.reduceLE, ↓reduceIte, Nat.reduceAdd, Int.reduceToNat, reduceCtorEq, Nat.reduceLeDiff, ↓u_ref1_Stream_told, ho6, hw]
 have hJ6 : ∀ j, J = some j → j < H6.length := fun j hj => s6.jlt hj
 have hgl : ∀ {i}, i < H6.length → (H6 ++ [Ob.obj 0 (TV.arr 0 1 [])])[i]? = H6[i]? := fun h => List.getElem?_append_left h
 have hF7 : Frm id none H6 (H6 ++ [Ob.obj 0 (TV.arr 0 1 [])]) := ⟨by simp, fun i hi _ _ => hgl hi⟩
 have hdd14 : (allB inn).drop (at_ + (14 + 3 * (v3 + 4))) = (allB inn).drop (at_ + 14 + 3 * (v3 + 4)) := by rw [Nat.add_assoc]
 rw [hdd14] at hR
 have finW : ∀ {H'}, Frm id (some H6.length) (H6 ++ [Ob.obj 0 (TV.arr 0 1 [])]) H' → Frm id none H H' := fun {H'} h => by
  have h67 : Frm id none H6 H' := ⟨by have := h.1; simp at this; omega, fun i hi h1 h2 => by rw [h.2 i (by simp; omega) h1 (by simp; omega)]; exact hgl hi⟩
  exact fin4 (hF6.trans Jn.refl h67)
 refine rrows (C := H5.length) (W := H6.length) (cl := L) (cb := (CSt.all L 15).bs) (v := 0) (at_ := at_ + 14 + 3 * (v3 + 4)) (by rfl) s6.app.ok hi (by rw [CSt.all_len]) (by omega) (by omega) (by rw [hgl hR16l]; exact hR16) (by rw [hgl hR26l]; exact hR26) (by rw [hgl (by omega)]; exact hC6) (by rw [List.getElem?_append_right (Nat.le_refl _)]; simp) ⟨by omega, by omega, by omega, by omega, by omega, by omega, by omega, fun e => by have := hJ6 _ e; omega⟩ ?_ ?_
 ·intro hno H7 hf7 hst7
  have hno' : rowsP (rdR L) (v1 + 257 + (v2 + 1)) (v1 + 257 + (v2 + 1) + 1) ((allB inn).drop (at_ + 14 + 3 * (v3 + 4))) [] = none := hno
  rw [hno'] at hR
  have k1 : H7[H.length]? = some noCode := by rw [hf7.2 _ (by simp; omega) (by omega) (by simp; omega), hgl hR16l]; exact hR16
  have k2 : H7[H.length + 1]? = some noCode := by rw [hf7.2 _ (by simp; omega) (by omega) (by simp; omega), hgl hR26l]; exact hR26
  simp -dsimp (disch := first | assumption | omega | (simp only [vmLen]; done) | (simp only [vmLen]; omega)) only [↓vmPre, vmPost, vmWrd, vmDat, eq_self, forall_const, Nat.reduceLT, Nat.reduceEqDiff, Nat.reduceSub, Nat.reduceMul, Nat.reduceMod, Nat.reduceDiv, Nat.reducePow, UInt8.reduceToNat, Int.reduceEq, Int.reduceLT, Int.reduceLE, ↓reduceIte, Nat.reduceAdd, Int.reduceToNat, reduceCtorEq, Nat.reduceLeDiff, ↓u_ref1_Stream_told, k1, k2]
  exact ⟨finW hf7, _, _, false, rfl, .inl rfl, .inl rfl, .inr ⟨rfl, hst7, fun a b B h => by rw [hR] at h; cases h⟩⟩
 ·intro row at2 hro hrl H7 v7 y7 hf7 hs7 hW7
  have hro' : rowsP (rdR L) (v1 + 257 + (v2 + 1)) (v1 + 257 + (v2 + 1) + 1) ((allB inn).drop (at_ + 14 + 3 * (v3 + 4))) [] = some (row, (allB inn).drop at2) := hro
  rw [hro'] at hR
  simp only at hR
  have k1 : H7[H.length]? = some noCode := by rw [hf7.2 _ (by simp; omega) (by omega) (by simp; omega), hgl hR16l]; exact hR16
  have k2 : H7[H.length + 1]? = some noCode := by rw [hf7.2 _ (by simp; omega) (by omega) (by simp; omega), hgl hR26l]; exact hR26
  simp -dsimp (disch := first | assumption | omega | (simp only [vmLen]; done) | (simp only [vmLen]; omega)) only [↓vmPre, vmPost, vmWrd, vmDat, eq_self, forall_const, Nat.reduceLT, Nat.reduceEqDiff, Nat.reduceSub, Nat.reduceMul, Nat.reduceMod, Nat.reduceDiv, Nat.reducePow, UInt8.reduceToNat, Int.reduceEq, Int.reduceLT, Int.reduceLE, ↓reduceIte, Nat.reduceAdd, Int.reduceToNat, reduceCtorEq, Nat.reduceLeDiff, ↓u_ref1_Stream_told_k19_e]
  refine w_frz (by rfl) hW7 (by simp) ?_
  have htk2 : List.take row.length (List.drop 0 (row.map fun (n : Nat) => i64 (n : Int))) = row.map fun (n : Nat) => i64 (n : Int) := by rw [List.drop_zero, List.take_of_length_le (by simp)]
  rw [htk2]
  obtain ⟨H8, hH8⟩ : ∃ H8, H8 = H7.set H6.length (Ob.gone v7) := ⟨_, rfl⟩
  rw [← hH8]
  have hl7 : H6.length + 1 ≤ H7.length := by have := hf7.1; simpa using this
  have hl8 : H8.length = H7.length := by rw [hH8]; simp
  have k18 : H8[H.length]? = some noCode := by rw [hH8, List.getElem?_set_ne (by omega)]; exact k1
  have k28 : H8[H.length + 1]? = some noCode := by rw [hH8, List.getElem?_set_ne (by omega)]; exact k2
  have s8 : StmX H8 id inn at2 o l most win J true := by rw [hH8]; exact hs7.x.set (by omega) (fun e => by have := hJ6 _ e; omega)
  have hF8 : Frm id none H6 H8 := ⟨by omega, fun i hi h1 h2 => by rw [hH8, List.getElem?_set_ne (by omega), hf7.2 i (by simp; omega) h1 (by simp; omega)]; exact hgl hi⟩
  simp -dsimp (disch := first | assumption | omega | (simp only [vmLen]; done) | (simp only [vmLen]; omega)) only [↓vmPre, vmPost, vmWrd, vmDat, eq_self, forall_const, Nat.reduceLT, Nat.reduceEqDiff, Nat.reduceSub, Nat.reduceMul, Nat.reduceMod, Nat.reduceDiv, Nat.reducePow, UInt8.reduceToNat, Int.reduceEq, Int.reduceLT, Int.reduceLE, ↓reduceIte, Nat.reduceAdd, Int.reduceToNat, reduceCtorEq, Nat.reduceLeDiff, ↓u_ref1_Stream_told]
  refine (rcodeV (row.take (v1 + 257)) true false (by rw [List.length_take]; omega)).calls rfl ?_
  rintro _ rfl
  simp -dsimp (disch := first | assumption | omega | (simp only [vmLen]; done) | (simp only [vmLen]; omega)) only [↓vmPre, vmPost, vmWrd, vmDat, eq_self, forall_const, Nat.reduceLT, Nat.reduceEqDiff, Nat.reduceSub, Nat.reduceMul, Nat.reduceMod, Nat.reduceDiv, Nat.reducePow, UInt8.reduceToNat, Int.reduceEq, Int.reduceLT, Int.reduceLE, ↓reduceIte, Nat.reduceAdd, Int.reduceToNat, reduceCtorEq, Nat.reduceLeDiff, ↓u_ref1_Stream_told]
  refine (rcodeV (row.drop (v1 + 257)) true true (by rw [List.length_drop]; omega)).calls rfl ?_
  rintro _ rfl
  obtain ⟨rv, hrv⟩ : ∃ rv, row[256]? = some rv := ⟨_, List.getElem?_eq_getElem (by omega)⟩
  have hrv' : row.getD 256 0 = rv := by rw [List.getD_eq_getElem?_getD, hrv]; rfl
  rw [hrv'] at hR
  have hJ0 : ∀ j, J = some j → j < H.length := fun j hj => hst.x.jlt hj
  obtain ⟨c1, hc1⟩ : ∃ c1, c1 = Ob.obj 0 (codeR (row.take (v1 + 257))) := ⟨_, rfl⟩
  obtain ⟨c2, hc2⟩ : ∃ c2, c2 = Ob.obj 0 (codeR (row.drop (v1 + 257))) := ⟨_, rfl⟩
  have hl8b : H.length + 1 < H8.length := by omega
  have s9 : ∀ y1 y2, StmOk ((H8.set H.length y1).set (H.length + 1) y2 ++ [c1] ++ [c2]) id inn at2 o l most win J := fun y1 y2 => ((s8.set (by omega) (fun e => by have := hJ0 _ e; omega)).set (by omega) (fun e => by have := hJ0 _ e; omega)).app.app.ok
  have hF9 : ∀ y1 y2, Frm id none H ((H8.set H.length y1).set (H.length + 1) y2 ++ [c1] ++ [c2]) := fun y1 y2 => ⟨by simp; omega, fun i hi h1 h2 => by
   rw [List.append_assoc, List.getElem?_append_left (by simp; omega), List.getElem?_set_ne (by omega), List.getElem?_set_ne (by omega)]
   exact (fin4 (hF6.trans Jn.refl hF8)).2 i hi h1 h2⟩
  have kept : ∀ (e : Env) (A A' : List Ob), A.length = H8.length → A'.length = H8.length → get e 18 = .op H8.length 0 [] → get e 20 = .op (H8.length + 1) 0 [] → (∀ j v p, get e 172 ≠ .op j v p) → Kept [18, 20, 172] e (A ++ [c1] ++ [c2]) (A' ++ [c1] ++ [c2]) := by
   intro e A A' hA hA' g1 g2 g3 q hq j ver p hg
   simp only [List.mem_cons, List.not_mem_nil, or_false] at hq
   rcases hq with rfl | rfl | rfl
   ·rw [g1] at hg; cases hg
    simp [List.getElem?_append, hA, hA']
   ·rw [g2] at hg; cases hg
    simp [List.getElem?_append, hA, hA']
   ·exact absurd hg (g3 _ _ _)
  have hla : (row.take (v1 + 257)).length ≤ 1000 := by rw [List.length_take]; omega
  have hlb : (row.drop (v1 + 257)).length ≤ 1000 := by rw [List.length_drop]; omega
  have cva : CodeV (codeR (row.take (v1 + 257))) := .inr ⟨_, _, rfl⟩
  have cvb : CodeV (codeR (row.drop (v1 + 257))) := .inr ⟨_, _, rfl⟩
  have bad : (okC (row.take (v1 + 257)) true false && okC (row.drop (v1 + 257)) true true) = false ∨ rv = 0 → ∀ a b B, R = some (a, b, B) → (okC a true false && okC b true true) = false := by
   intro hb a b B h
   rw [hR] at h
   by_cases hr0 : rv = 0
   ·rw [if_pos hr0] at h; cases h
   ·rw [if_neg hr0] at h
    cases h
    exact hb.resolve_right hr0
  cases ha : okC (row.take (v1 + 257)) true false with
  | false =>
   simp -dsimp (disch := first | assumption | omega | (simp only [vmLen]; done) | (simp only [vmLen]; omega)) only [↓vmPre, vmPost, vmWrd, vmDat, eq_self, forall_const, Nat.reduceLT, Nat.reduceEqDiff, Nat.reduceSub, Nat.reduceMul, Nat.reduceMod, Nat.reduceDiv, Nat.reducePow, UInt8.reduceToNat, Int.reduceEq, Int.reduceLT, Int.reduceLE, ↓reduceIte, Nat.reduceAdd, Int.reduceToNat, reduceCtorEq, Nat.reduceLeDiff, ↓u_ref1_Stream_told, hrv, k18, k28]
   rw [← hc1, ← hc2]
   refine ⟨⟨⟨hF9 _ _, _, _, false, rfl, cva, cvb, .inr ⟨rfl, .inl ⟨_, s9 _ _⟩, bad (.inl (by rw [ha]; rfl))⟩⟩, kept _ _ _ (by simp) (by simp) (by rfl) (by rfl) (by simp [get])⟩, kept _ _ _ rfl (by simp) (by rfl) (by rfl) (by simp [get])⟩
  | true =>
  cases hb : okC (row.drop (v1 + 257)) true true with
  | false =>
   simp -dsimp (disch := first | assumption | omega | (simp only [vmLen]; done) | (simp only [vmLen]; omega)) only [↓vmPre, vmPost, vmWrd, vmDat, eq_self, forall_const, Nat.reduceLT, Nat.reduceEqDiff, Nat.reduceSub, Nat.reduceMul, Nat.reduceMod, Nat.reduceDiv, Nat.reducePow, UInt8.reduceToNat, Int.reduceEq, Int.reduceLT, Int.reduceLE, ↓reduceIte, Nat.reduceAdd, Int.reduceToNat, reduceCtorEq, Nat.reduceLeDiff, ↓u_ref1_Stream_told, hrv, k18, k28]
   rw [← hc1, ← hc2]
   refine ⟨⟨⟨hF9 _ _, _, _, false, rfl, cva, cvb, .inr ⟨rfl, .inl ⟨_, s9 _ _⟩, bad (.inl (by rw [ha, hb]; rfl))⟩⟩, kept _ _ _ (by simp) (by simp) (by rfl) (by rfl) (by simp [get])⟩, kept _ _ _ rfl (by simp) (by rfl) (by rfl) (by simp [get])⟩
  | true =>
  by_cases hr0 : rv = 0
  ·subst hr0
   simp -dsimp (disch := first | assumption | omega | (simp only [vmLen]; done) | (simp only [vmLen]; omega)) only [↓vmPre, vmPost, vmWrd, vmDat, eq_self, forall_const, Nat.reduceLT, Nat.reduceEqDiff, Nat.reduceSub, Nat.reduceMul, Nat.reduceMod, Nat.reduceDiv, Nat.reducePow, UInt8.reduceToNat, Int.reduceEq, Int.reduceLT, Int.reduceLE, ↓reduceIte, Nat.reduceAdd, Int.reduceToNat, reduceCtorEq, Nat.reduceLeDiff, ↓u_ref1_Stream_told, hrv, k18, k28]
   rw [← hc1, ← hc2]
   refine ⟨⟨⟨hF9 _ _, _, _, false, rfl, cva, cvb, .inr ⟨rfl, .inl ⟨_, s9 _ _⟩, bad (.inr rfl)⟩⟩, kept _ _ _ (by simp) (by simp) (by rfl) (by rfl) (by simp [get])⟩, kept _ _ _ rfl (by simp) (by rfl) (by rfl) (by simp [get])⟩
  ·have hr1 : 0 < rv := by omega
   rw [if_neg hr0] at hR
   simp -dsimp (disch := first | assumption | omega | (simp only [vmLen]; done) | (simp only [vmLen]; omega)) only [↓vmPre, vmPost, vmWrd, vmDat, eq_self, forall_const, Nat.reduceLT, Nat.reduceEqDiff, Nat.reduceSub, Nat.reduceMul, Nat.reduceMod, Nat.reduceDiv, Nat.reducePow, UInt8.reduceToNat, Int.reduceEq, Int.reduceLT, Int.reduceLE, ↓reduceIte, Nat.reduceAdd, Int.reduceToNat, reduceCtorEq, Nat.reduceLeDiff, ↓u_ref1_Stream_told, hrv, k18, k28, hr1]
   rw [← hc1, ← hc2]
   refine ⟨⟨⟨hF9 _ _, _, _, true, rfl, cva, cvb, .inl ⟨rfl, _, _, _, hR, s9 _ _, ha, hb, rfl, rfl, hla, hlb⟩⟩, kept _ _ _ (by simp) (by simp) (by rfl) (by rfl) (by simp [get])⟩, kept _ _ _ rfl (by simp) (by rfl) (by rfl) (by simp [get])⟩
end Go.Proofs.YtfgljddikcghhaaDoor

