import Derived.Test.YtfgljddikcghhaaDoorVzRFixed
import Derived.Test.YtfgljddikcghhaaDoorVzRStored
import Derived.Test.YtfgljddikcghhaaDoorVzLen
namespace Go.Proofs.YtfgljddikcghhaaDoor
open Go.RowKit
variable [Globs]
set_option linter.unusedSectionVars false
set_option linter.unusedVariables false
set_option linter.unusedSimpArgs false

theorem rdR_ok (ls : List Nat) : RdOk (rdR ls) := fun B y B1 h => by
 obtain ⟨_, n, h1, h2, rfl⟩ := rdC_spec h
 rw [List.length_drop]; omega
/-- Behind an error a block's symbols are not read. -/
theorem rsymsE {id err at_ : Nat} {inn : List UInt8} {o : TV} {m f : Int} {c d : TV} {H : List Ob} (hw : width o = 1) (he : err ≠ 0) (hc : CodeV c) (hd : CodeV d) (h : H[id]? = some (stm inn at_ o m f err)) :
  VCalls Tryd.prog 38 [.op id 0 [], c, d] H (fun x H' => ∃ G, H' = H ++ G) := by
 have hid : id < H.length := (List.getElem?_eq_some_iff.1 h).1
 refine go_ref1_Stream_symbols (by simp) ?_
 have fin : ∀ c1 c2 d1 d2 : TV, width c1 = 1 → width c2 = 1 → width d1 = 1 → width d2 = 1 → True := fun _ _ _ _ _ _ _ _ => trivial
 rcases hc with rfl | ⟨ls, bs, rfl⟩ <;> rcases hd with rfl | ⟨ld, bd, rfl⟩
 all_goals
  simp -dsimp (disch := first | assumption | omega | (simp only [vmLen]; done) | (simp only [vmLen]; omega)) only [↓vmPre, vmPost, vmWrd, vmDat, eq_self, forall_const, Nat.reduceLT, Nat.reduceEqDiff, Nat.reduceSub, Nat.reduceMul, Nat.reduceMod, Nat.reduceDiv, Nat.reducePow, UInt8.reduceToNat, Int.reduceEq, Int.reduceLT, Int.reduceLE, ↓reduceIte, Nat.reduceAdd, Int.reduceToNat, reduceCtorEq, Nat.reduceLeDiff, ↓u_ref1_Stream_symbols]
  refine w_loop (fun q e H' => (∃ L L2, e = [(0, .op id 0 []), (4, .op L 0 []), (5, .op L2 0 [])]) ∧ ∃ G, H' = H ++ G) 0 ?_ ?_
  ·exact ⟨⟨_, _, rfl⟩, _, by rw [List.append_assoc]⟩
  ·rintro q e H' ⟨⟨L, L2, rfl⟩, G, rfl⟩
   have h' : (H ++ G)[id]? = some (stm inn at_ o m f err) := by rw [List.getElem?_append_left hid]; exact h
   simp -dsimp (disch := first | assumption | omega | (simp only [vmLen]; done) | (simp only [vmLen]; omega)) only [↓vmPre, vmPost, vmWrd, vmDat, eq_self, forall_const, Nat.reduceLT, Nat.reduceEqDiff, Nat.reduceSub, Nat.reduceMul, Nat.reduceMod, Nat.reduceDiv, Nat.reducePow, UInt8.reduceToNat, Int.reduceEq, Int.reduceLT, Int.reduceLE, ↓reduceIte, Nat.reduceAdd, Int.reduceToNat, reduceCtorEq, Nat.reduceLeDiff, ↓u_ref1_Stream_symbols, h', hw]
   exact ⟨_, rfl⟩
theorem fixL_len : fixL.length = 288 := by simp only [fixL, List.length_append, List.length_replicate]
theorem fixD_len : fixD.length = 32 := by simp only [fixD, List.length_replicate]
/-- What is known behind some blocks. -/
def BlkInv (b : List UInt8) (most win : Int) (R : Res) (q : Nat) (last : Nat) (H : List Ob) : Prop :=
 (last = 0 ∧ ∃ at_ o l J, StmOk H 0 b at_ o l most win J ∧ ((allB b).drop at_).length < q ∧ R = blocksP okC rdR most win q ((allB b).drop at_) l) ∨
 (q = 0 ∧ last = 1 ∧ ∃ at_ o l J, StmOk H 0 b at_ o l most win J ∧ R = .ok ((allB b).drop at_, l)) ∨
 (q = 0 ∧ last ≤ 1 ∧ ∃ e, R = .error e ∧ StmBad H 0 b most win e)
def BlkPost (b : List UInt8) (most win : Int) (R : Res) (H : List Ob) : Prop := match R with
 | .ok (B, l) => ∃ at_ o J, B = (allB b).drop at_ ∧ StmOk H 0 b at_ o l most win J
 | .error e => StmBad H 0 b most win e
/-- What follows from what a block did. -/
theorem BlkInv.of_res {b : List UInt8} {most win : Int} {R : Res} {q v1 : Nat} {H H' : List Ob} {B : List Bool} {l : List UInt8} {r : Res} {J : Option Nat} (hR : R = blocksP okC rdR most win (q + 1) B l) (hv : v1 ≤ 1) (hq : B.length < q + 1) (hb : blockP okC rdR most win B l = (v1 == 1, r)) (h : ResPost 0 J H b most win r H') : ∃ q' last', q' < q + 1 ∧ last' = v1 ∧ BlkInv b most win R q' last' H' := by
 rw [blocksP, hb] at hR
 obtain ⟨_, h⟩ := h
 cases r with
 | error e => exact ⟨0, v1, by omega, rfl, .inr (.inr ⟨rfl, hv, e, hR, h⟩)⟩
 | ok p =>
  obtain ⟨B', l'⟩ := p
  obtain ⟨at', o', J', rfl, hs, _⟩ := h
  have hlen := blockP_len rdR_ok hb
  have hv2 : v1 = 0 ∨ v1 = 1 := by omega
  rcases hv2 with rfl | rfl
  ·exact ⟨q, 0, by omega, rfl, .inl ⟨rfl, at', o', l', J', hs, by omega, hR⟩⟩
  ·exact ⟨0, 1, by omega, rfl, .inr (.inl ⟨rfl, rfl, at', o', l', J', hs, hR⟩)⟩
set_option maxHeartbeats 1000000 in
theorem rblocksV {x y : UInt8} {r : List UInt8} {most : Int} (hl : (x :: y :: r).length ≤ 1000000) (hx : x.toNat / 16 ≤ 7) (hm : -9223372036854775808 ≤ most ∧ most ≤ 1000000) :
  VCalls Tryd.prog 19 [slB (x :: y :: r), i64 most] [] (fun v H' => v = .op 0 0 [] ∧ BlkPost (x :: y :: r) most ((2 ^ (x.toNat / 16 + 8) : Nat) : Int) (blocksP okC rdR most ((2 ^ (x.toNat / 16 + 8) : Nat) : Int) (8 * r.length + 1) (allB r) []) H') := by
 obtain ⟨b, hb⟩ : ∃ b, b = x :: y :: r := ⟨_, rfl⟩
 have hb0 : b[0]? = some x := by rw [hb]; rfl
 have hB : (allB b).drop 16 = allB r := by rw [hb, allB_drop 2]; rfl
 have hbl : b.length = r.length + 2 := by rw [hb]; rfl
 rw [← hb] at hl ⊢
 have hxl := x.toNat_lt
 obtain ⟨W, hW⟩ : ∃ W, W = 2 ^ (x.toNat / 16 + 8) := ⟨_, rfl⟩
 have hW2 : 1 * 2 ^ (x.toNat / 16 % 8 + 8) = W := by rw [hW, Nat.mod_eq_of_lt (by omega), Nat.one_mul]
 have hWl : W ≤ 32768 := by rw [hW]; exact Nat.le_trans (Nat.pow_le_pow_right (by omega) (by omega : x.toNat / 16 + 8 ≤ 15)) (by decide)
 rw [← hW]
 obtain ⟨R, hR⟩ : ∃ R, R = blocksP okC rdR most (W : Int) (8 * r.length + 1) (allB r) [] := ⟨_, rfl⟩
 rw [← hR]
 refine go_ref1_blocks (by simp) ?_
 have hsh : 1 * 2 ^ (x.toNat / 16 % 8 + 8) ≤ 9223372036854775807 := by rw [hW2]; omega
 simp -dsimp (disch := first | assumption | omega | (simp only [vmLen]; done) | (simp only [vmLen]; omega)) only [↓vmPre, vmPost, vmWrd, vmDat, eq_self, forall_const, Nat.reduceLT, Nat.reduceEqDiff, Nat.reduceSub, Nat.reduceMul, Nat.reduceMod, Nat.reduceDiv, Nat.reducePow, UInt8.reduceToNat, Int.reduceEq, Int.reduceLT, Int.reduceLE, ↓reduceIte, Nat.reduceAdd, Int.reduceToNat, reduceCtorEq, Nat.reduceLeDiff, ↓u_ref1_blocks, hb0, hW2]
 refine w_loop (fun q e H => ∃ last : Nat, e = [(5, .op 0 0 []), (6, i64 (last : Int))] ∧ BlkInv b most W R q last H) (8 * r.length + 1) ?_ ?_
 ·refine ⟨0, rfl, .inl ⟨rfl, 16, nilS, [], none, ⟨rfl, ⟨rfl, rfl⟩, by simp, by omega, by simp⟩, ?_, ?_⟩⟩
  ·rw [hB, allB_len]; omega
  ·rw [hB]; exact hR
 ·rintro q e H ⟨last, rfl, hI⟩
  rcases hI with ⟨rfl, at_, o, l, J, hs, hq, hR1⟩ | ⟨rfl, rfl, at_, o, l, J, hs, hR1⟩ | ⟨rfl, hla, e, hR1, hbad⟩
  case inr.inl =>
   have ho := hs.ob
   have hw := hs.row.width1
   simp -dsimp (disch := first | assumption | omega | (simp only [vmLen]; done) | (simp only [vmLen]; omega)) only [↓vmPre, vmPost, vmWrd, vmDat, eq_self, forall_const, Nat.reduceLT, Nat.reduceEqDiff, Nat.reduceSub, Nat.reduceMul, Nat.reduceMod, Nat.reduceDiv, Nat.reducePow, UInt8.reduceToNat, Int.reduceEq, Int.reduceLT, Int.reduceLE, ↓reduceIte, Nat.reduceAdd, Int.reduceToNat, reduceCtorEq, Nat.reduceLeDiff, ↓u_ref1_blocks, ho, hw]
   rw [hR1]
   exact ⟨at_, o, J, rfl, hs⟩
  case inr.inr =>
   obtain ⟨b1, a2, o2, b2, b3, b4⟩ := hbad
   have hbad' : BlkPost b most W R H := by rw [hR1]; exact ⟨b1, a2, o2, b2, b3, b4⟩
   by_cases hl0 : last = 0
   ·subst hl0
    simp -dsimp (disch := first | assumption | omega | (simp only [vmLen]; done) | (simp only [vmLen]; omega)) only [↓vmPre, vmPost, vmWrd, vmDat, eq_self, forall_const, Nat.reduceLT, Nat.reduceEqDiff, Nat.reduceSub, Nat.reduceMul, Nat.reduceMod, Nat.reduceDiv, Nat.reducePow, UInt8.reduceToNat, Int.reduceEq, Int.reduceLT, Int.reduceLE, ↓reduceIte, Nat.reduceAdd, Int.reduceToNat, reduceCtorEq, Nat.reduceLeDiff, ↓u_ref1_blocks, b4, b3]
    exact hbad'
   ·simp -dsimp (disch := first | assumption | omega | (simp only [vmLen]; done) | (simp only [vmLen]; omega)) only [↓vmPre, vmPost, vmWrd, vmDat, eq_self, forall_const, Nat.reduceLT, Nat.reduceEqDiff, Nat.reduceSub, Nat.reduceMul, Nat.reduceMod, Nat.reduceDiv, Nat.reducePow, UInt8.reduceToNat, Int.reduceEq, Int.reduceLT, Int.reduceLE, ↓reduceIte, Nat.reduceAdd, Int.reduceToNat, reduceCtorEq, Nat.reduceLeDiff, ↓u_ref1_blocks, b4, b3]
    exact hbad'
  obtain ⟨f, rfl⟩ : ∃ f, q = f + 1 := ⟨q - 1, by omega⟩
  have ho := hs.ob
  have hw := hs.row.width1
  have hlt := hs.lt
  obtain ⟨B, hBB⟩ : ∃ B, B = (allB b).drop at_ := ⟨_, rfl⟩
  have hBl : B.length = 8 * b.length - at_ := by rw [hBB, List.length_drop, allB_len]
  simp -dsimp (disch := first | assumption | omega | (simp only [vmLen]; done) | (simp only [vmLen]; omega)) only [↓vmPre, vmPost, vmWrd, vmDat, eq_self, forall_const, Nat.reduceLT, Nat.reduceEqDiff, Nat.reduceSub, Nat.reduceMul, Nat.reduceMod, Nat.reduceDiv, Nat.reducePow, UInt8.reduceToNat, Int.reduceEq, Int.reduceLT, Int.reduceLE, ↓reduceIte, Nat.reduceAdd, Int.reduceToNat, reduceCtorEq, Nat.reduceLeDiff, ↓u_ref1_blocks, ho, hw]
  refine VCalls.mono (sbitsX (n := 1) hs.x (by omega) hl) ?_
  rintro v H2 ⟨f2, l2, s2, hv⟩
  rw [Bool.true_and, ← hBB] at hv s2
  obtain ⟨v1, hv1⟩ : ∃ v : Nat, v = (if decide (1 ≤ B.length) = true then valN (B.take 1) else 0) := ⟨_, rfl⟩
  rw [← hv1] at hv
  subst hv
  have hv1l : v1 < 2 := by have := bits_le 1 B; rw [hv1]; split <;> omega
  simp -dsimp (disch := first | assumption | omega | (simp only [vmLen]; done) | (simp only [vmLen]; omega)) only [↓vmPre, vmPost, vmWrd, vmDat, eq_self, forall_const, Nat.reduceLT, Nat.reduceEqDiff, Nat.reduceSub, Nat.reduceMul, Nat.reduceMod, Nat.reduceDiv, Nat.reducePow, UInt8.reduceToNat, Int.reduceEq, Int.reduceLT, Int.reduceLE, ↓reduceIte, Nat.reduceAdd, Int.reduceToNat, reduceCtorEq, Nat.reduceLeDiff, ↓u_ref1_blocks]
  refine VCalls.mono (sbitsX (n := 2) s2 (by omega) hl) ?_
  rintro v H3 ⟨f3, l3, s3, hv⟩
  rw [show (allB b).drop (at_ + 1) = B.drop 1 by rw [hBB, List.drop_drop]] at hv s3
  obtain ⟨v2, hv2⟩ : ∃ v : Nat, v = (if (decide (1 ≤ B.length) && decide (2 ≤ (B.drop 1).length)) = true then valN ((B.drop 1).take 2) else 0) := ⟨_, rfl⟩
  rw [← hv2] at hv
  subst hv
  have hv2l : v2 < 4 := by have := bits_le 2 (B.drop 1); rw [hv2]; split <;> omega
  have hok : (decide (1 ≤ B.length) && decide (2 ≤ (B.drop 1).length)) = decide (3 ≤ B.length) := by
   rw [← Bool.decide_and]
   congr 1
   simp only [List.length_drop]
   apply propext; omega
  rw [hok] at s3 hv2
  have hF3 : Frm 0 none H H3 := f2.trans Jn.refl f3
  have ho3 := s3.ob
  have h3l := s3.lt
  by_cases h3 : 3 ≤ B.length
  case neg =>
   rw [decide_eq_false h3] at s3 ho3
   simp only [Bool.false_eq_true, if_false] at ho3
   have hRe : R = .error 10 := by rw [hR1, blocksP, blockP, ← hBB, if_pos (by omega)]
   simp -dsimp (disch := first | assumption | omega | (simp only [vmLen]; done) | (simp only [vmLen]; omega)) only [↓vmPre, vmPost, vmWrd, vmDat, eq_self, forall_const, Nat.reduceLT, Nat.reduceEqDiff, Nat.reduceSub, Nat.reduceMul, Nat.reduceMod, Nat.reduceDiv, Nat.reducePow, UInt8.reduceToNat, Int.reduceEq, Int.reduceLT, Int.reduceLE, ↓reduceIte, Nat.reduceAdd, Int.reduceToNat, reduceCtorEq, Nat.reduceLeDiff, ↓u_ref1_blocks, ho3, hw]
   refine VCalls.mono (failV (e := 10) hw ho3) ?_
   intro v H4 hx
   rw [if_neg (by decide)] at hx
   subst hx
   simp -dsimp (disch := first | assumption | omega | (simp only [vmLen]; done) | (simp only [vmLen]; omega)) only [↓vmPre, vmPost, vmWrd, vmDat, eq_self, forall_const, Nat.reduceLT, Nat.reduceEqDiff, Nat.reduceSub, Nat.reduceMul, Nat.reduceMod, Nat.reduceDiv, Nat.reducePow, UInt8.reduceToNat, Int.reduceEq, Int.reduceLT, Int.reduceLE, ↓reduceIte, Nat.reduceAdd, Int.reduceToNat, reduceCtorEq, Nat.reduceLeDiff, ↓u_ref1_blocks]
   exact Rnd_keep 0 (by omega) (by simp; omega) ⟨v1, rfl, .inr (.inr ⟨rfl, by omega, 10, hRe, by simp, _, o, Nat.le_refl _, hw, by simp [h3l]⟩)⟩
  rw [decide_eq_true h3] at s3 ho3 hv2
  simp only [if_true] at ho3 hv2
  rw [decide_eq_true (by omega : 1 ≤ B.length), if_pos rfl] at hv1
  rw [← hBB] at hR1 hq
  have hdrop3 : (allB b).drop (at_ + 1 + 2) = B.drop 3 := by rw [hBB, List.drop_drop]
  have hblk : ∀ r, kindP okC rdR most W (B.length + 1) (B.drop 3) l v2 = r → blockP okC rdR most W B l = (v1 == 1, r) := by
   intro r hr
   rw [blockP, if_neg (by omega), ← hv1, ← hv2, hr]
  have fin : ∀ {r : Res} {G H' : List Ob}, blockP okC rdR most W B l = (v1 == 1, r) → ResPost 0 J G b most W r H' → 0 < H'.length → ∃ q' last', q' < f + 1 ∧ last' = v1 ∧ BlkInv b most W R q' last' H' := fun hb1 hp _ => BlkInv.of_res hR1 (by omega) hq hb1 hp
  have plen : ∀ {r : Res} {G H' : List Ob}, ResPost 0 J G b most W r H' → 0 < G.length → 0 < H'.length := fun hp hg => by have := hp.1.1; omega
  have hcase : v2 = 0 ∨ v2 = 1 ∨ v2 = 2 ∨ v2 = 3 := by omega
  rcases hcase with e2 | e2 | e2 | e2
  ·rw [e2]
   simp -dsimp (disch := first | assumption | omega | (simp only [vmLen]; done) | (simp only [vmLen]; omega)) only [↓vmPre, vmPost, vmWrd, vmDat, eq_self, forall_const, Nat.reduceLT, Nat.reduceEqDiff, Nat.reduceSub, Nat.reduceMul, Nat.reduceMod, Nat.reduceDiv, Nat.reducePow, UInt8.reduceToNat, Int.reduceEq, Int.reduceLT, Int.reduceLE, ↓reduceIte, Nat.reduceAdd, Int.reduceToNat, reduceCtorEq, Nat.reduceLeDiff, ↓u_ref1_blocks, ho3, hw]
   refine VCalls.mono (rstoredV s3.ok hl hm) ?_
   intro v H4 hp
   rw [hdrop3] at hp
   obtain ⟨q', last', hq', rfl, hI'⟩ := fin (hblk _ (by rw [e2, kindP])) hp (plen hp (by omega))
   have := plen hp (by omega)
   simp -dsimp (disch := first | assumption | omega | (simp only [vmLen]; done) | (simp only [vmLen]; omega)) only [↓vmPre, vmPost, vmWrd, vmDat, eq_self, forall_const, Nat.reduceLT, Nat.reduceEqDiff, Nat.reduceSub, Nat.reduceMul, Nat.reduceMod, Nat.reduceDiv, Nat.reducePow, UInt8.reduceToNat, Int.reduceEq, Int.reduceLT, Int.reduceLE, ↓reduceIte, Nat.reduceAdd, Int.reduceToNat, reduceCtorEq, Nat.reduceLeDiff, ↓u_ref1_blocks]
   exact Rnd_keep q' hq' (by omega) ⟨last', rfl, hI'⟩
  ·rw [e2]
   simp -dsimp (disch := first | assumption | omega | (simp only [vmLen]; done) | (simp only [vmLen]; omega)) only [↓vmPre, vmPost, vmWrd, vmDat, eq_self, forall_const, Nat.reduceLT, Nat.reduceEqDiff, Nat.reduceSub, Nat.reduceMul, Nat.reduceMod, Nat.reduceDiv, Nat.reducePow, UInt8.reduceToNat, Int.reduceEq, Int.reduceLT, Int.reduceLE, ↓reduceIte, Nat.reduceAdd, Int.reduceToNat, reduceCtorEq, Nat.reduceLeDiff, ↓u_ref1_blocks, ho3, hw]
   refine rfixedV.calls rfl ?_
   rintro _ rfl
   simp -dsimp (disch := first | assumption | omega | (simp only [vmLen]; done) | (simp only [vmLen]; omega)) only [↓vmPre, vmPost, vmWrd, vmDat, eq_self, forall_const, Nat.reduceLT, Nat.reduceEqDiff, Nat.reduceSub, Nat.reduceMul, Nat.reduceMod, Nat.reduceDiv, Nat.reducePow, UInt8.reduceToNat, Int.reduceEq, Int.reduceLT, Int.reduceLE, ↓reduceIte, Nat.reduceAdd, Int.reduceToNat, reduceCtorEq, Nat.reduceLeDiff, ↓u_ref1_blocks]
   refine VCalls.mono (rsymsV (ls := fixL) (bs := (CSt.all fixL 15).bs) (ld := fixD) (bd := (CSt.all fixD 15).bs) (B.length + 1) s3.app.app.ok ?_ hl (by rw [CSt.all_len]) (by rw [fixL_len]; omega) (by rw [CSt.all_len]) (by rw [fixD_len]; omega) hm (by omega)) ?_
   ·rw [hdrop3, List.length_drop]; omega
   intro v H4 hp
   rw [hdrop3] at hp
   have hp' : ResPost 0 J (H3 ++ [Ob.obj 0 (codeR fixL)] ++ [Ob.obj 0 (codeR fixD)]) b most W (syms (rdR fixL) (rdR fixD) most W (B.length + 1) (B.drop 3) l) H4 := hp
   obtain ⟨q', last', hq', rfl, hI'⟩ := fin (hblk _ (by rw [e2, kindP])) hp' (plen hp' (by simp))
   have := plen hp' (by simp)
   simp -dsimp (disch := first | assumption | omega | (simp only [vmLen]; done) | (simp only [vmLen]; omega)) only [↓vmPre, vmPost, vmWrd, vmDat, eq_self, forall_const, Nat.reduceLT, Nat.reduceEqDiff, Nat.reduceSub, Nat.reduceMul, Nat.reduceMod, Nat.reduceDiv, Nat.reducePow, UInt8.reduceToNat, Int.reduceEq, Int.reduceLT, Int.reduceLE, ↓reduceIte, Nat.reduceAdd, Int.reduceToNat, reduceCtorEq, Nat.reduceLeDiff, ↓u_ref1_blocks]
   exact Rnd_keep q' hq' (by omega) ⟨last', rfl, hI'⟩
  ·rw [e2]
   simp -dsimp (disch := first | assumption | omega | (simp only [vmLen]; done) | (simp only [vmLen]; omega)) only [↓vmPre, vmPost, vmWrd, vmDat, eq_self, forall_const, Nat.reduceLT, Nat.reduceEqDiff, Nat.reduceSub, Nat.reduceMul, Nat.reduceMod, Nat.reduceDiv, Nat.reducePow, UInt8.reduceToNat, Int.reduceEq, Int.reduceLT, Int.reduceLE, ↓reduceIte, Nat.reduceAdd, Int.reduceToNat, reduceCtorEq, Nat.reduceLeDiff, ↓u_ref1_blocks, ho3, hw]
   refine VCalls.mono (rtoldV s3.ok hl) ?_
   rintro v H4 ⟨hf4, c, d, ok, rfl, hc, hd, hcs⟩
   rw [hdrop3] at hcs
   have hlc : ∀ {x : TV}, CodeV x → width x = 2 ∧ lays x = true ∧ isTup x = false ∧ isAg x = true ∧ pureT x = true := fun {x} hx => by
    rcases hx with rfl | ⟨ls, bs, rfl⟩ <;> exact ⟨rfl, rfl, rfl, rfl, rfl⟩
   rcases hcs with ⟨rfl, a, b', at2, hto, hs4, hka, hkb, rfl, rfl, hla, hlb⟩ | ⟨rfl, hs4, hno⟩
   ·have hto' : kindP okC rdR most W (B.length + 1) (B.drop 3) l v2 = syms (rdR a) (rdR b') most W (B.length + 1) ((allB b).drop at2) l := by
     rw [e2, kindP, hto]
     simp only [hka, hkb, Bool.and_self, if_true]
    have hlen2 := toldP_len rdR_ok hto
    have hlen3 : (B.drop 3).length = B.length - 3 := List.length_drop
    simp -dsimp (disch := first | assumption | omega | (simp only [vmLen]; done) | (simp only [vmLen]; omega)) only [↓vmPre, vmPost, vmWrd, vmDat, eq_self, forall_const, Nat.reduceLT, Nat.reduceEqDiff, Nat.reduceSub, Nat.reduceMul, Nat.reduceMod, Nat.reduceDiv, Nat.reducePow, UInt8.reduceToNat, Int.reduceEq, Int.reduceLT, Int.reduceLE, ↓reduceIte, Nat.reduceAdd, Int.reduceToNat, reduceCtorEq, Nat.reduceLeDiff, ↓u_ref1_blocks]
    refine VCalls.mono (rsymsV (ls := a) (bs := (CSt.all a 15).bs) (ld := b') (bd := (CSt.all b' 15).bs) (B.length + 1) hs4.x.app.app.ok (by omega) hl (by rw [CSt.all_len]) hla (by rw [CSt.all_len]) hlb hm (by omega)) ?_
    intro v H5 hp
    have hp' : ResPost 0 J (H4 ++ [Ob.obj 0 (codeR a)] ++ [Ob.obj 0 (codeR b')]) b most W (syms (rdR a) (rdR b') most W (B.length + 1) ((allB b).drop at2) l) H5 := hp
    obtain ⟨q', last', hq', rfl, hI'⟩ := fin (hblk _ hto') hp' (plen hp' (by simp))
    have := plen hp' (by simp)
    simp -dsimp (disch := first | assumption | omega | (simp only [vmLen]; done) | (simp only [vmLen]; omega)) only [↓vmPre, vmPost, vmWrd, vmDat, eq_self, forall_const, Nat.reduceLT, Nat.reduceEqDiff, Nat.reduceSub, Nat.reduceMul, Nat.reduceMod, Nat.reduceDiv, Nat.reducePow, UInt8.reduceToNat, Int.reduceEq, Int.reduceLT, Int.reduceLE, ↓reduceIte, Nat.reduceAdd, Int.reduceToNat, reduceCtorEq, Nat.reduceLeDiff, ↓u_ref1_blocks]
    exact Rnd_keep q' hq' (by omega) ⟨last', rfl, hI'⟩
   ·have hto' : kindP okC rdR most W (B.length + 1) (B.drop 3) l v2 = .error 10 := by
     rw [e2, kindP]
     cases ht : toldP okC rdR (B.drop 3) with
     | none => rfl
     | some p =>
      obtain ⟨a, b', B'⟩ := p
      simp only [hno a b' B' ht]
      rfl
    obtain ⟨a2, o2, e0, he0, ha2, hw2, hob⟩ : ∃ a2 o2 e0, (e0 = 0 ∨ e0 = 10) ∧ a2 ≤ 8 * b.length ∧ width o2 = 1 ∧ H4[0]? = some (stm b a2 o2 most W e0) := by
     rcases hs4 with ⟨at2, hs4⟩ | ⟨_, a2, o2, q1, q2, q3⟩
     ·exact ⟨at2, o, 0, .inl rfl, hs4.at_, hw, hs4.ob⟩
     ·exact ⟨a2, o2, 10, .inr rfl, q1, q2, q3⟩
    have h4l := (List.getElem?_eq_some_iff.1 hob).1
    have hc' := hc
    have hd' := hd
    have tail : ∀ (G : List Ob), (G = H4 ++ [Ob.obj 0 c] ++ [Ob.obj 0 d]) → ∀ (v : TV) (H5 : List Ob), H5 = G.set 0 (stm b a2 o2 most W (if e0 = 0 then 10 else e0)) → H5[0]? = some (stm b a2 o2 most W 10) ∧ H5[H4.length]? = some (Ob.obj 0 c) ∧ H5[H4.length + 1]? = some (Ob.obj 0 d) ∧ 0 < H5.length := by
     intro G hG v H5 h5
     subst hG; subst h5
     have : (if e0 = 0 then 10 else e0) = 10 := by rcases he0 with rfl | rfl <;> rfl
     rw [this]
     refine ⟨by simp, ?_, ?_, by simp⟩
     ·rw [List.getElem?_set_ne (by omega), List.append_assoc, List.getElem?_append_right (Nat.le_refl _)]; simp
     ·rw [List.getElem?_set_ne (by omega), List.append_assoc, List.getElem?_append_right (by omega)]; simp
    rcases hc with rfl | ⟨lc, bc, rfl⟩ <;> rcases hd with rfl | ⟨ld, bd, rfl⟩
    all_goals
     simp -dsimp (disch := first | assumption | omega | (simp only [vmLen]; done) | (simp only [vmLen]; omega)) only [↓vmPre, vmPost, vmWrd, vmDat, eq_self, forall_const, Nat.reduceLT, Nat.reduceEqDiff, Nat.reduceSub, Nat.reduceMul, Nat.reduceMod, Nat.reduceDiv, Nat.reducePow, UInt8.reduceToNat, Int.reduceEq, Int.reduceLT, Int.reduceLE, ↓reduceIte, Nat.reduceAdd, Int.reduceToNat, reduceCtorEq, Nat.reduceLeDiff, ↓u_ref1_blocks]
     refine VCalls.mono (failV (e := 10) hw2 (by rw [List.append_assoc, List.getElem?_append_left h4l]; exact hob)) ?_
     intro v H5 hx
     obtain ⟨t1, t2, t3, t4⟩ := tail _ rfl v H5 hx
     simp -dsimp (disch := first | assumption | omega | (simp only [vmLen]; done) | (simp only [vmLen]; omega)) only [↓vmPre, vmPost, vmWrd, vmDat, eq_self, forall_const, Nat.reduceLT, Nat.reduceEqDiff, Nat.reduceSub, Nat.reduceMul, Nat.reduceMod, Nat.reduceDiv, Nat.reducePow, UInt8.reduceToNat, Int.reduceEq, Int.reduceLT, Int.reduceLE, ↓reduceIte, Nat.reduceAdd, Int.reduceToNat, reduceCtorEq, Nat.reduceLeDiff, ↓u_ref1_blocks, t2, t3]
     refine VCalls.mono (rsymsE hw2 (by decide) hc' hd' t1) ?_
     rintro v2' H6 ⟨G6, rfl⟩
     have hp : ResPost 0 J H5 b most W (.error 10) (H5 ++ G6) := ⟨⟨by simp, fun i hi _ _ => List.getElem?_append_left hi⟩, by simp, a2, o2, ha2, hw2, by rw [List.getElem?_append_left t4]; exact t1⟩
     obtain ⟨q', last', hq', rfl, hI'⟩ := fin (hblk _ hto') hp (plen hp t4)
     have := plen hp t4
     simp -dsimp (disch := first | assumption | omega | (simp only [vmLen]; done) | (simp only [vmLen]; omega)) only [↓vmPre, vmPost, vmWrd, vmDat, eq_self, forall_const, Nat.reduceLT, Nat.reduceEqDiff, Nat.reduceSub, Nat.reduceMul, Nat.reduceMod, Nat.reduceDiv, Nat.reducePow, UInt8.reduceToNat, Int.reduceEq, Int.reduceLT, Int.reduceLE, ↓reduceIte, Nat.reduceAdd, Int.reduceToNat, reduceCtorEq, Nat.reduceLeDiff, ↓u_ref1_blocks]
     exact Rnd_keep q' hq' (by omega) ⟨last', rfl, hI'⟩
  ·rw [e2]
   simp -dsimp (disch := first | assumption | omega | (simp only [vmLen]; done) | (simp only [vmLen]; omega)) only [↓vmPre, vmPost, vmWrd, vmDat, eq_self, forall_const, Nat.reduceLT, Nat.reduceEqDiff, Nat.reduceSub, Nat.reduceMul, Nat.reduceMod, Nat.reduceDiv, Nat.reducePow, UInt8.reduceToNat, Int.reduceEq, Int.reduceLT, Int.reduceLE, ↓reduceIte, Nat.reduceAdd, Int.reduceToNat, reduceCtorEq, Nat.reduceLeDiff, ↓u_ref1_blocks, ho3, hw]
   refine VCalls.mono (failV (e := 10) hw ho3) ?_
   intro v H4 hx
   rw [if_pos rfl] at hx
   have hp : ResPost 0 J H3 b most W (.error 10) H4 := by subst hx; exact ⟨Frm.set.weak, by simp, _, o, s3.at_ rfl, hw, by simp [h3l]⟩
   obtain ⟨q', last', hq', rfl, hI'⟩ := fin (hblk _ (by rw [e2]; rfl)) hp (plen hp (by omega))
   have := plen hp (by omega)
   simp -dsimp (disch := first | assumption | omega | (simp only [vmLen]; done) | (simp only [vmLen]; omega)) only [↓vmPre, vmPost, vmWrd, vmDat, eq_self, forall_const, Nat.reduceLT, Nat.reduceEqDiff, Nat.reduceSub, Nat.reduceMul, Nat.reduceMod, Nat.reduceDiv, Nat.reducePow, UInt8.reduceToNat, Int.reduceEq, Int.reduceLT, Int.reduceLE, ↓reduceIte, Nat.reduceAdd, Int.reduceToNat, reduceCtorEq, Nat.reduceLeDiff, ↓u_ref1_blocks]
   exact Rnd_keep q' hq' (by omega) ⟨last', rfl, hI'⟩
end Go.Proofs.YtfgljddikcghhaaDoor

