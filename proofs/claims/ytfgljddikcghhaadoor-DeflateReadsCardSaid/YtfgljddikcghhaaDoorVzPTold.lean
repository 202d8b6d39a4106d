import Derived.Test.YtfgljddikcghhaaDoorVzPRows
namespace Go.Proofs.YtfgljddikcghhaaDoor
open Go.RowKit
variable [Globs] [K_gitlike_deflate_order]
set_option linter.unusedSectionVars false
set_option linter.unusedVariables false
set_option linter.unusedSimpArgs false

theorem order_is : globOf 1 = some gv_gitlike_deflate_order := K_gitlike_deflate_order.k
theorem order_tv : gv_gitlike_deflate_order.tv = .arr 19 1 (orderL.map fun (n : Nat) => i64 (n : Int)) := by rfl
theorem thirdL_le (B : List Bool) : ∀ i, ∀ n ∈ thirdL B i, n ≤ 15
 | 0, n, h => by rw [thirdL, List.mem_replicate] at h; omega
 | i + 1, n, h => by
  rw [thirdL] at h
  rcases List.mem_or_eq_of_mem_set h with h | rfl
  ·exact thirdL_le B i n h
  ·have := bits_le 3 (B.drop (3 * i)); omega
/-- The third code's lengths. -/
theorem pthird {id T n m k : Nat} {C : List Bool} {l : List UInt8} {o : TV} {most win : Int} {J : Option Nat} {H : List Ob} {Q : VEx → Env → List Ob → Prop} (hst : RdrAt H id C o l most win J) (hk : k ≤ 19)
  (hT : H[T]? = some (nsO 0 (thirdL C 0))) (hne : T ≠ id ∧ J ≠ some T)
  (hq : ∀ H' y, Frm id (some T) H H' → H'[T]? = some (nsO 0 (thirdL C k)) → 3 * k ≤ C.length → RdrAt H' id (C.drop (3 * k)) o l most win J → Q .nor [(0, .op id 0 []), (4, i64 (n : Int)), (5, i64 (m : Int)), (7, .os 1 T 0 [] 0 19 19), (32, nats (orderL.take k)), (33, i64 (k : Int)), (34, i64 (k : Int)), (35, y)] H')
  (hp : ∀ H', Frm id (some T) H H' → C.length < 3 * k → ∀ e, Q (.pan (errE 10)) e H') :
  vwp Tryd.prog (.loop [0, 4, 5, 7, 32, 33, 34] c_deflate_reader_told_L1) (Blk 0 Q) [(0, .op id 0 []), (4, i64 (n : Int)), (5, i64 (m : Int)), (7, .os 1 T 0 [] 0 19 19), (32, nats (orderL.take k)), (33, i64 (k : Int)), (34, i64 ((0 : Nat) : Int))] H := by
 refine w_loop (fun q e H' => ∃ i : Nat, q = k - i ∧ i ≤ k ∧ e = [(0, .op id 0 []), (4, i64 (n : Int)), (5, i64 (m : Int)), (7, .os 1 T 0 [] 0 19 19), (32, nats (orderL.take k)), (33, i64 (k : Int)), (34, i64 (i : Int))] ∧ Frm id (some T) H H' ∧ H'[T]? = some (nsO 0 (thirdL C i)) ∧ 3 * i ≤ C.length ∧ RdrAt H' id (C.drop (3 * i)) o l most win J) k ?_ ?_
 ·exact ⟨0, rfl, by omega, rfl, Frm.refl, hT, by omega, by simpa using hst⟩
 ·rintro q e H' ⟨i, rfl, hik, rfl, hfr, h2, h3, hs⟩
  by_cases hlt : i < k
  ·obtain ⟨ov, hov⟩ : ∃ ov, orderL[i]? = some ov := ⟨_, List.getElem?_eq_getElem (show i < 19 by omega)⟩
   have hov2 : ov < 19 := by
    have : ∀ x ∈ orderL, x < 19 := by decide
    exact this ov (List.mem_of_getElem? hov)
   have hovk : (orderL.take k)[i]? = some ov := by rw [List.getElem?_take, if_pos hlt]; exact hov
   have hkl : (orderL.take k).length = k := by rw [List.length_take]; exact Nat.min_eq_left hk
   have hL := thirdL_len C i
   obtain ⟨lv, hlv⟩ : ∃ lv, (thirdL C i)[ov]? = some lv := ⟨_, List.getElem?_eq_getElem (by omega)⟩
   simp -dsimp (disch := first | assumption | omega | (simp only [vmLen]; done) | (simp only [vmLen]; omega)) only [↓vmPre, vmPost, vmWrd, vmDat, eq_self, forall_const, Nat.reduceLT, Nat.reduceEqDiff, Nat.reduceSub, Nat.reduceMul, Nat.reduceMod, Nat.reduceDiv, Nat.reducePow, UInt8.reduceToNat, Int.reduceEq, Int.reduceLT, Int.reduceLE, ↓reduceIte, Nat.reduceAdd, Int.reduceToNat, reduceCtorEq, Nat.reduceLeDiff, ↓u_deflate_reader_told, hovk, hkl]
   refine (bitsS hs (n := 3) (by omega)).callsP ?_ ?_
   ·rintro x H2 ⟨f2, l2, k1, rfl, s2⟩
    have hT2 : H2[T]? = some (nsO 0 (thirdL C i)) := by rw [f2.2 T (List.getElem?_eq_some_iff.1 h2).1 hne.1 (by simp)]; exact h2
    have hTl : T < H2.length := (List.getElem?_eq_some_iff.1 hT2).1
    obtain ⟨v, hv⟩ : ∃ v : Nat, v = valN ((C.drop (3 * i)).take 3) := ⟨_, rfl⟩
    rw [← hv]
    simp -dsimp (disch := first | assumption | omega | (simp only [vmLen]; done) | (simp only [vmLen]; omega)) only [↓vmPre, vmPost, vmWrd, vmDat, eq_self, forall_const, Nat.reduceLT, Nat.reduceEqDiff, Nat.reduceSub, Nat.reduceMul, Nat.reduceMod, Nat.reduceDiv, Nat.reducePow, UInt8.reduceToNat, Int.reduceEq, Int.reduceLT, Int.reduceLE, ↓reduceIte, Nat.reduceAdd, Int.reduceToNat, reduceCtorEq, Nat.reduceLeDiff, ↓u_deflate_reader_told, hT2, hL, hlv]
    have hstep : thirdL C (i + 1) = (thirdL C i).set ov v := by rw [thirdL, List.getD_eq_getElem?_getD, hov, hv]; rfl
    rw [List.length_drop] at k1
    refine Rnd_keep (k - (i + 1)) (by omega) (by have := hfr.1; simp; omega) ⟨i + 1, rfl, by omega, rfl, ?_, ?_, by omega, ?_⟩
    ·refine hfr.trans (J' := some T) Jn.refl ⟨by simp [l2], fun j hj h1 h2 => ?_⟩
     rw [List.getElem?_set_ne (fun e => h2 (by rw [e]))]
     exact f2.2 j hj h1 (by simp)
    ·rw [List.getElem?_set_self hTl, hstep]
     simp only [nsO, List.map_set, List.length_set, hL]
    ·rw [List.drop_drop] at s2
     rw [show 3 * (i + 1) = 3 * i + 3 by omega]
     exact s2.set hne.1 hne.2
   ·rintro u H2 ⟨k1, rfl, k3⟩
    rw [List.length_drop] at k1
    exact hp _ (hfr.trans Jn.refl k3.weak) (by omega) _
  ·have hik2 : i = k := by omega
   subst hik2
   simp -dsimp (disch := first | assumption | omega | (simp only [vmLen]; done) | (simp only [vmLen]; omega)) only [↓vmPre, vmPost, vmWrd, vmDat, eq_self, forall_const, Nat.reduceLT, Nat.reduceEqDiff, Nat.reduceSub, Nat.reduceMul, Nat.reduceMod, Nat.reduceDiv, Nat.reducePow, UInt8.reduceToNat, Int.reduceEq, Int.reduceLT, Int.reduceLE, ↓reduceIte, Nat.reduceAdd, Int.reduceToNat, reduceCtorEq, Nat.reduceLeDiff, ↓u_deflate_reader_told]
   exact hq H' _ hfr h2 h3 hs
/-- What is told. -/
def PTold (id : Nat) (o : TV) (l : List UInt8) (most win : Int) (J : Option Nat) (H : List Ob) (R : Option (List Nat × List Nat × List Bool)) (x : TV) (H' : List Ob) : Prop :=
 Frm id none H H' ∧ ∃ a b B', R = some (a, b, B') ∧ x = .tup [nats a, nats b] ∧ RdrAt H' id B' o l most win J
set_option maxHeartbeats 1000000 in
theorem ptoldV {id : Nat} {B : List Bool} {o : TV} {l : List UInt8} {most win : Int} {J : Option Nat} {H : List Ob} (hst : RdrAt H id B o l most win J) :
  VCallsP Tryd.prog 29 [.op id 0 []] H (PTold id o l most win J H (toldP okC rdR B)) (fun u H' => Frm id none H H' ∧ toldP okC rdR B = none ∧ u = errE 10) := by
 have hid := hst.lt
 obtain ⟨R, hR⟩ : ∃ R, R = toldP okC rdR B := ⟨_, rfl⟩
 rw [← hR]
 unfold toldP at hR
 refine gp_deflate_reader_told (by simp) ?_
 simp -dsimp (disch := first | assumption | omega | (simp only [vmLen]; done) | (simp only [vmLen]; omega)) only [↓vmPre, vmPost, vmWrd, vmDat, eq_self, forall_const, Nat.reduceLT, Nat.reduceEqDiff, Nat.reduceSub, Nat.reduceMul, Nat.reduceMod, Nat.reduceDiv, Nat.reducePow, UInt8.reduceToNat, Int.reduceEq, Int.reduceLT, Int.reduceLE, ↓reduceIte, Nat.reduceAdd, Int.reduceToNat, reduceCtorEq, Nat.reduceLeDiff, ↓u_deflate_reader_told]
 refine (bitsS hst (n := 5) (by omega)).callsP ?_ ?_
 case refine_2 =>
  rintro u H2 ⟨k1, rfl, k3⟩
  exact ⟨k3, by rw [hR, if_pos (by omega)], rfl⟩
 rintro x H2 ⟨f2, l2, k1, rfl, s2⟩
 obtain ⟨v1, hv1⟩ : ∃ v, v = valN (B.take 5) := ⟨_, rfl⟩
 have hv1l : v1 < 32 := by have := bits_le 5 B; omega
 rw [← hv1] at hR ⊢
 simp -dsimp (disch := first | assumption | omega | (simp only [vmLen]; done) | (simp only [vmLen]; omega)) only [↓vmPre, vmPost, vmWrd, vmDat, eq_self, forall_const, Nat.reduceLT, Nat.reduceEqDiff, Nat.reduceSub, Nat.reduceMul, Nat.reduceMod, Nat.reduceDiv, Nat.reducePow, UInt8.reduceToNat, Int.reduceEq, Int.reduceLT, Int.reduceLE, ↓reduceIte, Nat.reduceAdd, Int.reduceToNat, reduceCtorEq, Nat.reduceLeDiff, ↓u_deflate_reader_told]
 refine (bitsS s2 (n := 5) (by omega)).callsP ?_ ?_
 case refine_2 =>
  rintro u H3 ⟨k2, rfl, k3⟩
  rw [List.length_drop] at k2
  exact ⟨f2.trans Jn.refl k3, by rw [hR, if_pos (by omega)], rfl⟩
 rintro x H3 ⟨f3, l3, k2, rfl, s3⟩
 obtain ⟨v2, hv2⟩ : ∃ v, v = valN ((B.drop 5).take 5) := ⟨_, rfl⟩
 have hv2l : v2 < 32 := by have := bits_le 5 (B.drop 5); omega
 rw [← hv2] at hR ⊢
 rw [List.drop_drop] at s3
 simp -dsimp (disch := first | assumption | omega | (simp only [vmLen]; done) | (simp only [vmLen]; omega)) only [↓vmPre, vmPost, vmWrd, vmDat, eq_self, forall_const, Nat.reduceLT, Nat.reduceEqDiff, Nat.reduceSub, Nat.reduceMul, Nat.reduceMod, Nat.reduceDiv, Nat.reducePow, UInt8.reduceToNat, Int.reduceEq, Int.reduceLT, Int.reduceLE, ↓reduceIte, Nat.reduceAdd, Int.reduceToNat, reduceCtorEq, Nat.reduceLeDiff, ↓u_deflate_reader_told]
 refine (bitsS s3 (n := 4) (by omega)).callsP ?_ ?_
 case refine_2 =>
  rintro u H4 ⟨k3, rfl, k4⟩
  rw [List.length_drop] at k3
  exact ⟨(f2.trans Jn.refl f3).trans Jn.refl k4, by rw [hR, if_pos (by omega)], rfl⟩
 rintro x H4 ⟨f4, l4, k3, rfl, s4⟩
 obtain ⟨v3, hv3⟩ : ∃ v, v = valN ((B.drop 10).take 4) := ⟨_, rfl⟩
 have hv3l : v3 < 16 := by have := bits_le 4 (B.drop 10); omega
 rw [← hv3] at hR
 rw [show B.drop (5 + 5) = B.drop 10 from rfl, ← hv3]
 rw [List.drop_drop] at s4
 rw [List.length_drop] at k2 k3
 rw [if_neg (by omega)] at hR
 have hF4 : Frm id none H H4 := (f2.trans Jn.refl f3).trans Jn.refl f4
 by_cases hlim : 286 < v1 + 257 ∨ 30 < v2 + 1
 ·rw [if_pos hlim] at hR
  by_cases hl2 : 286 < v1 + 257
  ·simp -dsimp (disch := first | assumption | omega | (simp only [vmLen]; done) | (simp only [vmLen]; omega)) only [↓vmPre, vmPost, vmWrd, vmDat, eq_self, forall_const, Nat.reduceLT, Nat.reduceEqDiff, Nat.reduceSub, Nat.reduceMul, Nat.reduceMod, Nat.reduceDiv, Nat.reducePow, UInt8.reduceToNat, Int.reduceEq, Int.reduceLT, Int.reduceLE, ↓reduceIte, Nat.reduceAdd, Int.reduceToNat, reduceCtorEq, Nat.reduceLeDiff, ↓u_deflate_reader_told]
   exact ⟨hF4, hR⟩
  ·simp -dsimp (disch := first | assumption | omega | (simp only [vmLen]; done) | (simp only [vmLen]; omega)) only [↓vmPre, vmPost, vmWrd, vmDat, eq_self, forall_const, Nat.reduceLT, Nat.reduceEqDiff, Nat.reduceSub, Nat.reduceMul, Nat.reduceMod, Nat.reduceDiv, Nat.reducePow, UInt8.reduceToNat, Int.reduceEq, Int.reduceLT, Int.reduceLE, ↓reduceIte, Nat.reduceAdd, Int.reduceToNat, reduceCtorEq, Nat.reduceLeDiff, ↓u_deflate_reader_told]
   exact ⟨hF4, hR⟩
 rw [if_neg hlim] at hR
 have hol : orderL.length = 19 := rfl
 simp -dsimp (disch := first | assumption | omega | (simp only [vmLen]; done) | (simp only [vmLen]; omega)) only [↓vmPre, vmPost, vmWrd, vmDat, eq_self, forall_const, Nat.reduceLT, Nat.reduceEqDiff, Nat.reduceSub, Nat.reduceMul, Nat.reduceMod, Nat.reduceDiv, Nat.reducePow, UInt8.reduceToNat, Int.reduceEq, Int.reduceLT, Int.reduceLE, ↓reduceIte, Nat.reduceAdd, Int.reduceToNat, reduceCtorEq, Nat.reduceLeDiff, ↓u_deflate_reader_told, order_is, order_tv, hol]
 have hJ4 : ∀ j, J = some j → j < H4.length := fun j hj => s4.jlt hj
 have hid4 := s4.lt
 have hC : ((B.drop 14).length = B.length - 14) := List.length_drop
 have finT : ∀ {H'}, Frm id (some H4.length) (H4 ++ [Ob.obj 0 (TV.arr 19 1 (List.replicate 19 (TV.val (.int .i64 ((0 : Nat) : Int)))))]) H' → Frm id none H H' := fun {H'} h => by
  refine hF4.trans Jn.refl ⟨by have := h.1; simp at this; omega, fun i hi h1 _ => ?_⟩
  rw [h.2 i (by simp; omega) h1 (by simp; omega), List.getElem?_append_left hi]
 refine pthird (T := H4.length) (C := B.drop 14) (n := v1 + 257) (m := v2 + 1) (k := v3 + 4) s4.app (by omega) ?_ ⟨by omega, fun e => by have := hJ4 _ e; omega⟩ (fun H5 y hf5 hT5 hle5 s5 => ?_) (fun H5 hf5 hlt5 _ => ?_)
 case refine_1 => rw [List.getElem?_append_right (Nat.le_refl _), Nat.sub_self]; rfl
 case refine_3 => exact ⟨finT hf5, by rw [hR, if_pos (by omega)], rfl⟩
 rw [if_neg (by omega)] at hR
 rw [List.drop_drop] at s5
 have hF5 := finT hf5
 have hl5 : H4.length + 1 ≤ H5.length := by have := hf5.1; simpa using this
 generalize hL : thirdL (B.drop 14) (v3 + 4) = L at *
 have hLl : L.length = 19 := by rw [← hL, thirdL_len]
 have hL15 : ∀ n ∈ L, n ≤ 15 := by rw [← hL]; exact thirdL_le _ _
 simp -dsimp (disch := first | assumption | omega | (simp only [vmLen]; done) | (simp only [vmLen]; omega)) only [↓vmPre, vmPost, vmWrd, vmDat, eq_self, forall_const, Nat.reduceLT, Nat.reduceEqDiff, Nat.reduceSub, Nat.reduceMul, Nat.reduceMod, Nat.reduceDiv, Nat.reducePow, UInt8.reduceToNat, Int.reduceEq, Int.reduceLT, Int.reduceLE, ↓reduceIte, Nat.reduceAdd, Int.reduceToNat, reduceCtorEq, Nat.reduceLeDiff, ↓u_deflate_reader_told]
 refine (growC (ls := L) (few := false) (non := false) (by omega) hL15).lendsP (args' := [nats L, tb false, tb false]) (by simp -dsimp (disch := first | assumption | omega) only [↓vmPre, vmPost, vmWrd, vmDat, eq_self, forall_const, Nat.reduceLT, Nat.reduceEqDiff, Nat.reduceSub, Nat.reduceMul, Nat.reduceMod, Nat.reduceDiv, Nat.reducePow, UInt8.reduceToNat, Int.reduceEq, Int.reduceLT, Int.reduceLE, ↓reduceIte, Nat.reduceAdd, Int.reduceToNat, reduceCtorEq, Nat.reduceLeDiff, hT5, hLl]) ?_ ?_
 case refine_2 =>
  rintro u ⟨k1, rfl⟩
  exact ⟨hF5, by rw [hR, if_pos k1], rfl⟩
 rintro _ ⟨hokL, T, rfl, hT1, hT2, hT3⟩
 rw [if_neg (by rw [hokL]; simp)] at hR
 have hJ5 : ∀ j, J = some j → j < H5.length := fun j hj => s5.jlt hj
 have finW : ∀ {H'}, Frm id (some H5.length) (H5 ++ [Ob.obj 0 (TV.arr 0 1 [])]) H' → Frm id none H H' := fun {H'} h => by
  refine hF5.trans Jn.refl ⟨by have := h.1; simp at this; omega, fun i hi h1 _ => ?_⟩
  rw [h.2 i (by simp; omega) h1 (by simp; omega), List.getElem?_append_left hi]
 simp -dsimp (disch := first | assumption | omega | (simp only [vmLen]; done) | (simp only [vmLen]; omega)) only [↓vmPre, vmPost, vmWrd, vmDat, eq_self, forall_const, Nat.reduceLT, Nat.reduceEqDiff, Nat.reduceSub, Nat.reduceMul, Nat.reduceMod, Nat.reduceDiv, Nat.reducePow, UInt8.reduceToNat, Int.reduceEq, Int.reduceLT, Int.reduceLE, ↓reduceIte, Nat.reduceAdd, Int.reduceToNat, reduceCtorEq, Nat.reduceLeDiff, ↓u_deflate_reader_told]
 refine prows (n := v1 + 257) (m := v2 + 1) (W := H5.length) (v := 0) (B := B.drop (14 + 3 * (v3 + 4))) (T := T) (by rfl) s5.app hT1 hT2 (fun B y B1 h => by rw [hT3] at h; have := (rdC_spec h).1; omega) (by omega) (by rw [List.getElem?_append_right (Nat.le_refl _), Nat.sub_self]; rfl) (by omega) (fun e => by have := hJ5 _ e; omega) (fun hno H6 hf6 _ => ?_) (fun row B2 hro hrl H6 v6 y6 hf6 s6 hW6 => ?_)
 ·rw [hT3] at hno
  rw [hno] at hR
  exact ⟨finW hf6, hR, rfl⟩
 ·rw [hT3] at hro
  rw [hro] at hR
  simp only at hR
  obtain ⟨rv, hrv⟩ : ∃ rv, row[256]? = some rv := ⟨_, List.getElem?_eq_getElem (by omega)⟩
  have hrv' : row.getD 256 0 = rv := by rw [List.getD_eq_getElem?_getD, hrv]; rfl
  rw [hrv'] at hR
  simp -dsimp (disch := first | assumption | omega | (simp only [vmLen]; done) | (simp only [vmLen]; omega)) only [↓vmPre, vmPost, vmWrd, vmDat, eq_self, forall_const, Nat.reduceLT, Nat.reduceEqDiff, Nat.reduceSub, Nat.reduceMul, Nat.reduceMod, Nat.reduceDiv, Nat.reducePow, UInt8.reduceToNat, Int.reduceEq, Int.reduceLT, Int.reduceLE, ↓reduceIte, Nat.reduceAdd, Int.reduceToNat, reduceCtorEq, Nat.reduceLeDiff, ↓u_deflate_reader_told_k12_e]
  refine w_frz (by rfl) hW6 (by simp) ?_
  have htk : List.take row.length (List.drop 0 (row.map fun (n : Nat) => i64 (n : Int))) = row.map fun (n : Nat) => i64 (n : Int) := by rw [List.drop_zero, List.take_of_length_le (by simp)]
  rw [htk]
  have hl6 : H5.length + 1 ≤ H6.length := by have := hf6.1; simpa using this
  have hF7 : Frm id none H (H6.set H5.length (Ob.gone v6)) := by
   refine hF5.trans Jn.refl ⟨by simp; omega, fun i hi h1 _ => ?_⟩
   rw [List.getElem?_set_ne (by omega), hf6.2 i (by simp; omega) h1 (by simp; omega), List.getElem?_append_left hi]
  have s7 : RdrAt (H6.set H5.length (Ob.gone v6)) id B2 o l most win J := s6.set (by omega) (fun e => by have := hJ5 _ e; omega)
  by_cases hr0 : rv = 0
  ·subst hr0
   rw [if_pos rfl] at hR
   simp -dsimp (disch := first | assumption | omega | (simp only [vmLen]; done) | (simp only [vmLen]; omega)) only [↓vmPre, vmPost, vmWrd, vmDat, eq_self, forall_const, Nat.reduceLT, Nat.reduceEqDiff, Nat.reduceSub, Nat.reduceMul, Nat.reduceMod, Nat.reduceDiv, Nat.reducePow, UInt8.reduceToNat, Int.reduceEq, Int.reduceLT, Int.reduceLE, ↓reduceIte, Nat.reduceAdd, Int.reduceToNat, reduceCtorEq, Nat.reduceLeDiff, ↓u_deflate_reader_told, hrv]
   exact ⟨hF7, hR⟩
  ·rw [if_neg hr0] at hR
   simp -dsimp (disch := first | assumption | omega | (simp only [vmLen]; done) | (simp only [vmLen]; omega)) only [↓vmPre, vmPost, vmWrd, vmDat, eq_self, forall_const, Nat.reduceLT, Nat.reduceEqDiff, Nat.reduceSub, Nat.reduceMul, Nat.reduceMod, Nat.reduceDiv, Nat.reducePow, UInt8.reduceToNat, Int.reduceEq, Int.reduceLT, Int.reduceLE, ↓reduceIte, Nat.reduceAdd, Int.reduceToNat, reduceCtorEq, Nat.reduceLeDiff, ↓u_deflate_reader_told, hrv]
   exact ⟨hF7, _, _, B2, hR, rfl, s7⟩
end Go.Proofs.YtfgljddikcghhaaDoor

