import Derived.Test.YtfgljddikcghhaaDoorVzPInfE
namespace Go.Proofs.YtfgljddikcghhaaDoor
open Go.RowKit
variable [Globs] [K_gitlike_deflate_order]
set_option linter.unusedSectionVars false
set_option linter.unusedVariables false
set_option linter.unusedSimpArgs false

section
variable {P : Program} {t : Nat} {cs : List Nat} {Q0 : VEx → Env → List Ob → Prop} {Q1 : List TV → VEx → Env → List Ob → Prop} {A B : VCode} {e : Env} {H : List Ob}
theorem g_seq (hA : A ≠ .dead) (h : vwp P A (fun x e H => match x with | .nor => vwpG P t cs Q0 Q1 B e H | .exit i => Q0 (.exit i) e H | .ret => Q0 .ret e H | .pan u => Q0 (.pan u) e H) e H) : vwpG P t cs Q0 Q1 (.seq A B) e H := by
 cases A <;> first | (exact (hA rfl).elim) | (rw [vwpG] <;> first | exact h | exact hA)
theorem g_dead (h1 : ∀ s ∈ cs, isTup (get e s) = false) (h : vwp P B (Q1 (cs.map (get e))) ((t, .any) :: e) H) : vwpG P t cs Q0 Q1 (.seq .dead B) e H := by
 rw [vwpG]; exact ⟨h1, h⟩
end
section
omit [Globs] [K_gitlike_deflate_order]
set_option maxRecDepth 100000 in
theorem and_15 : ∀ n, n < 256 → n &&& 15 = n % 16 := by decide
end
set_option maxHeartbeats 1000000 in
theorem pinfl_loop {b r : List UInt8} {most : Int} {win : Nat} {R : Except Nat (List UInt8 × Nat)} (hl : b.length ≤ 1000000) (hbr : b.length = r.length + 2) (hm : -9223372036854775808 ≤ most ∧ most ≤ 1000000) (hw : win ≤ 32768)
  (hR : R = match blocksP okC rdR most (win : Int) (8 * r.length + 1) (allB r) [] with
   | .error e => .error e
   | .ok (B, l) => if (B.drop (B.length % 8)).length < 32 then .error 10 else if numB 4 (B.drop (B.length % 8)) = adl l then .ok (l, b.length - (B.length / 8 - 4)) else .error 10) :
  vwp Tryd.prog (.loop [0, 4, 5, 6, 7, 8] c_deflate_Inflate_L1)
   (Blk 0 (Thn Tryd.prog c_deflate_Inflate_k7 (atEndG Tryd.prog r_deflate_Inflate 13 (fun x H' => vget (frs H' x) (InflO R)) [.op 0 0 [], .op 1 0 [], .op 2 0 []])))
   [(0, slB b), (4, .op 0 0 []), (5, .op 1 0 []), (6, .op 2 0 []), (7, .op 3 0 []), (8, tb false)]
   [.obj 0 nilS, .obj 0 (i64 ((0 : Nat) : Int)), .obj 0 (.val .nilIface), rdr r 0 0 nilS (i64 most) (i64 (win : Int))] := by
 obtain ⟨R1, hR1⟩ : ∃ R1, R1 = blocksP okC rdR most (win : Int) (8 * r.length + 1) (allB r) [] := ⟨_, rfl⟩
 rw [← hR1] at hR
 have hAl := allB_len r
 refine w_loop (fun q e H => ∃ last B o l J, e = [(0, slB b), (4, .op 0 0 []), (5, .op 1 0 []), (6, .op 2 0 []), (7, .op 3 0 []), (8, tb last)] ∧ Res3 H ∧ 4 ≤ H.length ∧ RdrAt H 3 B o l most (win : Int) J ∧ (∀ j, J = some j → 3 < j) ∧ B.length ≤ 8 * b.length ∧
  (if last = true then q = 0 ∧ R1 = .ok (B, l) else B.length < q ∧ R1 = blocksP okC rdR most (win : Int) q B l)) (8 * r.length + 1) ?_ ?_
 ·refine ⟨false, allB r, nilS, [], none, rfl, ⟨rfl, rfl, rfl⟩, by simp, ⟨⟨r, 0, 0, rfl, by omega, by omega, by simp, rfl⟩, ⟨rfl, rfl⟩, by simp, by simp⟩, fun j hj => by simp at hj, by omega, ?_⟩
  rw [if_neg (by simp)]
  exact ⟨by omega, hR1⟩
 ·rintro q e H ⟨last, B, o, l, J, rfl, h3, h4, hst, hJ, hB, hq⟩
  cases last with
  | true =>
   rw [if_pos rfl] at hq
   obtain ⟨rfl, hq⟩ := hq
   rw [hq] at hR
   simp only at hR
   simp -dsimp (disch := first | assumption | omega | (simp only [vmLen]; done) | (simp only [vmLen]; omega)) only [↓vmPre, vmPost, vmWrd, vmDat, eq_self, forall_const, Nat.reduceLT, Nat.reduceEqDiff, Nat.reduceSub, Nat.reduceMul, Nat.reduceMod, Nat.reduceDiv, Nat.reducePow, UInt8.reduceToNat, Int.reduceEq, Int.reduceLT, Int.reduceLE, ↓reduceIte, Nat.reduceAdd, Int.reduceToNat, reduceCtorEq, Nat.reduceLeDiff, ↓u_deflate_Inflate_L1_e]
   exact pinfl_end hst h3 hJ hl hB hR
  | false =>
   rw [if_neg (by simp)] at hq
   obtain ⟨hBq, hq⟩ := hq
   obtain ⟨f, rfl⟩ : ∃ f, q = f + 1 := ⟨q - 1, by omega⟩
   rw [blocksP] at hq
   simp -dsimp (disch := first | assumption | omega | (simp only [vmLen]; done) | (simp only [vmLen]; omega)) only [↓vmPre, vmPost, vmWrd, vmDat, eq_self, forall_const, Nat.reduceLT, Nat.reduceEqDiff, Nat.reduceSub, Nat.reduceMul, Nat.reduceMod, Nat.reduceDiv, Nat.reducePow, UInt8.reduceToNat, Int.reduceEq, Int.reduceLT, Int.reduceLE, ↓reduceIte, Nat.reduceAdd, Int.reduceToNat, reduceCtorEq, Nat.reduceLeDiff, ↓u_deflate_Inflate_L1_e]
   refine (pblockV hst hm ⟨by omega, by omega⟩).callsP ?_ ?_
   case refine_2 =>
    rintro u H2 ⟨hf, k, e, he, rfl⟩
    rw [he] at hq
    simp only at hq
    exact caught (h3.frm hf hJ) rfl rfl rfl (by rw [hR, hq])
   rintro x H2 ⟨hf, last, B', l', o', J', he, rfl, hst', hj⟩
   have hlen := blockP_len rdR_ok he
   rw [he] at hq
   have hJ' : ∀ j, J' = some j → 3 < j := fun j e => by
    rcases hj with h | h
    ·exact hJ j (by rw [← h]; exact e)
    ·have := h j e; omega
   have hH := hf.1
   cases last with
   | true =>
    simp only at hq
    simp -dsimp (disch := first | assumption | omega | (simp only [vmLen]; done) | (simp only [vmLen]; omega)) only [↓vmPre, vmPost, vmWrd, vmDat, eq_self, forall_const, Nat.reduceLT, Nat.reduceEqDiff, Nat.reduceSub, Nat.reduceMul, Nat.reduceMod, Nat.reduceDiv, Nat.reducePow, UInt8.reduceToNat, Int.reduceEq, Int.reduceLT, Int.reduceLE, ↓reduceIte, Nat.reduceAdd, Int.reduceToNat, reduceCtorEq, Nat.reduceLeDiff, ↓u_deflate_Inflate_L1_e]
    exact Rnd_keep 0 (by omega) (by omega) ⟨true, B', o', l', J', rfl, h3.frm hf hJ, by omega, hst', hJ', by omega, by rw [if_pos rfl]; exact ⟨rfl, hq⟩⟩
   | false =>
    simp only at hq
    simp -dsimp (disch := first | assumption | omega | (simp only [vmLen]; done) | (simp only [vmLen]; omega)) only [↓vmPre, vmPost, vmWrd, vmDat, eq_self, forall_const, Nat.reduceLT, Nat.reduceEqDiff, Nat.reduceSub, Nat.reduceMul, Nat.reduceMod, Nat.reduceDiv, Nat.reducePow, UInt8.reduceToNat, Int.reduceEq, Int.reduceLT, Int.reduceLE, ↓reduceIte, Nat.reduceAdd, Int.reduceToNat, reduceCtorEq, Nat.reduceLeDiff, ↓u_deflate_Inflate_L1_e]
    exact Rnd_keep f (by omega) (by omega) ⟨false, B', o', l', J', rfl, h3.frm hf hJ, by omega, hst', hJ', by omega, by rw [if_neg (by simp)]; exact ⟨by omega, hq⟩⟩
set_option maxHeartbeats 1000000 in
theorem pinflV (b : List UInt8) (most : Int) (hl : b.length ≤ 1000000) (hm : -9223372036854775808 ≤ most ∧ most ≤ 1000000) : VFresh Tryd.prog 7 [slB b, i64 most] (InflO (inflP okC rdR adl b most)) := by
 obtain ⟨R, hR⟩ : ∃ R, R = inflP okC rdR adl b most := ⟨_, rfl⟩
 rw [← hR]
 unfold inflP at hR
 refine VCalls.toFreshV (vcallsG_of (t := 62) (cs := [4, 5, 6]) Tryd.func7 t_deflate_Inflate (by kernel_rfl) w_deflate_Inflate (by kernel_rfl) (by decide) (by simp) idle_Inflate ?_)
 rw [c_deflate_Inflate]
 refine g_seq (by simp) ?_
 simp -dsimp (disch := first | assumption | omega | (simp only [vmLen]; done) | (simp only [vmLen]; omega)) only [↓vmPre, vmPost, vmWrd, vmDat, eq_self, forall_const, Nat.reduceLT, Nat.reduceEqDiff, Nat.reduceSub, Nat.reduceMul, Nat.reduceMod, Nat.reduceDiv, Nat.reducePow, UInt8.reduceToNat, Int.reduceEq, Int.reduceLT, Int.reduceLE, ↓reduceIte, Nat.reduceAdd, Int.reduceToNat, reduceCtorEq, Nat.reduceLeDiff]
 rw [c_deflate_Inflate_k11]
 refine g_seq (by simp) ?_
 have hbad : R = .error 10 → ∀ E, get E 4 = .op 0 0 [] → get E 5 = .op 1 0 [] → get E 6 = .op 2 0 [] → 
  res r_deflate_Inflate E [.obj 0 nilS, .obj 0 (i64 ((0 : Nat) : Int)), .obj 0 (.ifc 28 (i64 ((10 : Nat) : Int)))] fun x => vget (frs [.obj 0 nilS, .obj 0 (i64 ((0 : Nat) : Int)), .obj 0 (.ifc 28 (i64 ((10 : Nat) : Int)))] x) (InflO R) := fun h E h4 h5 h6 => by
  rw [u_deflate_Inflate_r]
  simp -dsimp (disch := first | assumption | omega | (simp only [vmLen]; done) | (simp only [vmLen]; omega)) only [↓vmPre, vmPost, vmWrd, vmDat, eq_self, forall_const, Nat.reduceLT, Nat.reduceEqDiff, Nat.reduceSub, Nat.reduceMul, Nat.reduceMod, Nat.reduceDiv, Nat.reducePow, UInt8.reduceToNat, Int.reduceEq, Int.reduceLT, Int.reduceLE, ↓reduceIte, Nat.reduceAdd, Int.reduceToNat, reduceCtorEq, Nat.reduceLeDiff, h4, h5, h6]
  rw [h]; rfl
 by_cases h2 : b.length < 2
 ·have hRe : R = .error 10 := by
   rw [hR]
   match b, h2 with
   | [], _ => rfl
   | [_], _ => rfl
  simp -dsimp (disch := first | assumption | omega | (simp only [vmLen]; done) | (simp only [vmLen]; omega)) only [↓vmPre, vmPost, vmWrd, vmDat, eq_self, forall_const, Nat.reduceLT, Nat.reduceEqDiff, Nat.reduceSub, Nat.reduceMul, Nat.reduceMod, Nat.reduceDiv, Nat.reducePow, UInt8.reduceToNat, Int.reduceEq, Int.reduceLT, Int.reduceLE, ↓reduceIte, Nat.reduceAdd, Int.reduceToNat, reduceCtorEq, Nat.reduceLeDiff]
  exact hbad hRe _ rfl rfl rfl
 obtain ⟨x, y, r, rfl⟩ : ∃ x y r, b = x :: y :: r := by
  match b, h2 with
  | x :: y :: r, _ => exact ⟨x, y, r, rfl⟩
  | [], h => simp at h
  | [_], h => simp at h
 simp only at hR
 have hxl := x.toNat_lt
 have hyl := y.toNat_lt
 have hb0 : (x :: y :: r)[0]? = some x := rfl
 have hb1 : (x :: y :: r)[1]? = some y := rfl
 have hbl : (x :: y :: r).length = r.length + 2 := rfl
 have hand := and_32 y.toNat (by omega)
 have hand15 := and_15 x.toNat (by omega)
 have hor : x.toNat * 256 ||| y.toNat = x.toNat * 256 + y.toNat := by
  have := Nat.shiftLeft_add_eq_or_of_lt (i := 8) (b := y.toNat) (by omega) x.toNat
  rw [Nat.shiftLeft_eq] at this
  exact this.symm
 have hbadH : headOk x.toNat y.toNat = false → R = .error 10 := fun h => by rw [hR, h]; rfl
 by_cases c1 : x.toNat % 16 = 8
 case neg =>
  simp -dsimp (disch := first | assumption | omega | (simp only [vmLen]; done) | (simp only [vmLen]; omega)) only [↓vmPre, vmPost, vmWrd, vmDat, eq_self, forall_const, Nat.reduceLT, Nat.reduceEqDiff, Nat.reduceSub, Nat.reduceMul, Nat.reduceMod, Nat.reduceDiv, Nat.reducePow, UInt8.reduceToNat, Int.reduceEq, Int.reduceLT, Int.reduceLE, ↓reduceIte, Nat.reduceAdd, Int.reduceToNat, reduceCtorEq, Nat.reduceLeDiff, hb0, hb1, b_shr8, b_and8, hor]
  exact hbad (hbadH (by simp [headOk, c1])) _ rfl rfl rfl
 by_cases c2 : x.toNat / 16 ≤ 7
 case neg =>
  simp -dsimp (disch := first | assumption | omega | (simp only [vmLen]; done) | (simp only [vmLen]; omega)) only [↓vmPre, vmPost, vmWrd, vmDat, eq_self, forall_const, Nat.reduceLT, Nat.reduceEqDiff, Nat.reduceSub, Nat.reduceMul, Nat.reduceMod, Nat.reduceDiv, Nat.reducePow, UInt8.reduceToNat, Int.reduceEq, Int.reduceLT, Int.reduceLE, ↓reduceIte, Nat.reduceAdd, Int.reduceToNat, reduceCtorEq, Nat.reduceLeDiff, hb0, hb1, b_shr8, b_and8, hor]
  exact hbad (hbadH (by simp [headOk, c2])) _ rfl rfl rfl
 by_cases c3 : (x.toNat * 256 + y.toNat) % 31 = 0
 case neg =>
  simp -dsimp (disch := first | assumption | omega | (simp only [vmLen]; done) | (simp only [vmLen]; omega)) only [↓vmPre, vmPost, vmWrd, vmDat, eq_self, forall_const, Nat.reduceLT, Nat.reduceEqDiff, Nat.reduceSub, Nat.reduceMul, Nat.reduceMod, Nat.reduceDiv, Nat.reducePow, UInt8.reduceToNat, Int.reduceEq, Int.reduceLT, Int.reduceLE, ↓reduceIte, Nat.reduceAdd, Int.reduceToNat, reduceCtorEq, Nat.reduceLeDiff, hb0, hb1, b_shr8, b_and8, hor]
  exact hbad (hbadH (by simp [headOk, c3])) _ rfl rfl rfl
 by_cases c4 : y.toNat &&& 32 = 0
 case neg =>
  simp -dsimp (disch := first | assumption | omega | (simp only [vmLen]; done) | (simp only [vmLen]; omega)) only [↓vmPre, vmPost, vmWrd, vmDat, eq_self, forall_const, Nat.reduceLT, Nat.reduceEqDiff, Nat.reduceSub, Nat.reduceMul, Nat.reduceMod, Nat.reduceDiv, Nat.reducePow, UInt8.reduceToNat, Int.reduceEq, Int.reduceLT, Int.reduceLE, ↓reduceIte, Nat.reduceAdd, Int.reduceToNat, reduceCtorEq, Nat.reduceLeDiff, hb0, hb1, b_shr8, b_and8, hor]
  exact hbad (hbadH (by
   have : ¬ y.toNat / 32 % 2 = 0 := by omega
   simp [headOk, this])) _ rfl rfl rfl
 have hhead : headOk x.toNat y.toNat = true := by
  have : y.toNat / 32 % 2 = 0 := by omega
  simp [headOk, c1, c2, c3, this]
 rw [hhead, if_pos rfl] at hR
 simp -dsimp (disch := first | assumption | omega | (simp only [vmLen]; done) | (simp only [vmLen]; omega)) only [↓vmPre, vmPost, vmWrd, vmDat, eq_self, forall_const, Nat.reduceLT, Nat.reduceEqDiff, Nat.reduceSub, Nat.reduceMul, Nat.reduceMod, Nat.reduceDiv, Nat.reducePow, UInt8.reduceToNat, Int.reduceEq, Int.reduceLT, Int.reduceLE, ↓reduceIte, Nat.reduceAdd, Int.reduceToNat, reduceCtorEq, Nat.reduceLeDiff, hb0, hb1, b_shr8, b_and8, hor]
 rw [c_deflate_Inflate_k10]
 refine g_seq (by simp) ?_
 have hw8 : x.toNat / 16 + 8 ≤ 15 := by omega
 have hpow : 2 ^ (x.toNat / 16 + 8) ≤ 2 ^ 15 := Nat.pow_le_pow_right (by omega) hw8
 have hshl : ∀ t, binV t .shl (.int .i64 ((1 : Nat) : Int)) (.int .u8 (((x.toNat / 16 + 8) % 256 : Nat) : Int)) = some (.int .i64 ((2 ^ (x.toNat / 16 + 8) : Nat) : Int)) := fun t => by
  have e : (x.toNat / 16 + 8) % 256 = x.toNat / 16 + 8 := by omega
  rw [e, b_shlN (by omega) (by omega), Nat.one_mul]
 obtain ⟨win, hwin⟩ : ∃ win, win = 2 ^ (x.toNat / 16 + 8) := ⟨_, rfl⟩
 rw [← hwin] at hshl hR hpow
 simp -dsimp (disch := first | assumption | omega | (simp only [vmLen]; done) | (simp only [vmLen]; omega)) only [↓vmPre, vmPost, vmWrd, vmDat, eq_self, forall_const, Nat.reduceLT, Nat.reduceEqDiff, Nat.reduceSub, Nat.reduceMul, Nat.reduceMod, Nat.reduceDiv, Nat.reducePow, UInt8.reduceToNat, Int.reduceEq, Int.reduceLT, Int.reduceLE, ↓reduceIte, Nat.reduceAdd, Int.reduceToNat, reduceCtorEq, Nat.reduceLeDiff, hb0, hb1, b_shr8, b_and8, hor, b_add8, hshl]
 rw [c_deflate_Inflate_k9]
 refine g_dead (fun s hs => ?_) ?_
 ·simp only [List.mem_cons, List.not_mem_nil, or_false] at hs
  rcases hs with rfl | rfl | rfl <;> rfl
 rw [show ([4, 5, 6] : List Nat).map (get [(0, slB (x :: y :: r)), (4, TV.op 0 0 []), (5, TV.op 1 0 []), (6, TV.op 2 0 []), (7, TV.op 3 0 [])]) = [.op 0 0 [], .op 1 0 [], .op 2 0 []] from rfl]
 simp -dsimp (disch := first | assumption | omega | (simp only [vmLen]; done) | (simp only [vmLen]; omega)) only [↓vmPre, vmPost, vmWrd, vmDat, eq_self, forall_const, Nat.reduceLT, Nat.reduceEqDiff, Nat.reduceSub, Nat.reduceMul, Nat.reduceMod, Nat.reduceDiv, Nat.reducePow, UInt8.reduceToNat, Int.reduceEq, Int.reduceLT, Int.reduceLE, ↓reduceIte, Nat.reduceAdd, Int.reduceToNat, reduceCtorEq, Nat.reduceLeDiff, ↓u_deflate_Inflate_k8_e]
 exact pinfl_loop hl hbl hm (by omega) hR
end Go.Proofs.YtfgljddikcghhaaDoor

