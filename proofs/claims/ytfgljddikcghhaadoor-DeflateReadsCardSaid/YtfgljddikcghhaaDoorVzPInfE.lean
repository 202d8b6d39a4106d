import Derived.Test.YtfgljddikcghhaaDoorVzCatch
import Derived.Test.YtfgljddikcghhaaDoorVzPBlock
import Derived.Test.YtfgljddikcghhaaDoorVzRInfl
import Derived.Test.YtfgljddikcghhaaDoorBaseC
namespace Go.Proofs.YtfgljddikcghhaaDoor
open Go.RowKit
variable [Globs] [K_gitlike_deflate_order]
set_option linter.unusedSectionVars false
set_option linter.unusedVariables false
set_option linter.unusedSimpArgs false

/-- What Inflate tells. -/
def InflO (R : Except Nat (List UInt8 × Nat)) (x : TV) : Prop := match R with
 | .ok (l, used) => ∃ y, (y = slB l ∨ (l = [] ∧ y = nilS)) ∧ l.length ≤ 1000000 ∧ x = .tup [y, i64 (used : Int), .val .nilIface]
 | .error e => x = .tup [nilS, i64 ((0 : Nat) : Int), .ifc 28 (i64 (e : Int))]
/-- The results' cells, and what else there is. -/
def Res3 (H : List Ob) : Prop := H[0]? = some (.obj 0 nilS) ∧ H[1]? = some (.obj 0 (i64 ((0 : Nat) : Int))) ∧ H[2]? = some (.obj 0 (.val .nilIface))
theorem caught {e : Nat} {H : List Ob} {E : Env} {R : Except Nat (List UInt8 × Nat)} (h : Res3 H) (h4 : get E 4 = .op 0 0 []) (h5 : get E 5 = .op 1 0 []) (h6 : get E 6 = .op 2 0 []) (hR : R = .error e) :
  atEndG Tryd.prog r_deflate_Inflate 13 (fun x H' => vget (frs H' x) (InflO R)) [.op 0 0 [], .op 1 0 [], .op 2 0 []] (.pan (errE e)) E H := by
 obtain ⟨k0, k1, k2⟩ := h
 have l2 : 2 < H.length := (List.getElem?_eq_some_iff.1 k2).1
 refine catch_Inflate ?_
 simp -dsimp (disch := first | assumption | omega | (simp only [vmLen]; done) | (simp only [vmLen]; omega)) only [↓vmPre, vmPost, vmWrd, vmDat, eq_self, forall_const, Nat.reduceLT, Nat.reduceEqDiff, Nat.reduceSub, Nat.reduceMul, Nat.reduceMod, Nat.reduceDiv, Nat.reducePow, UInt8.reduceToNat, Int.reduceEq, Int.reduceLT, Int.reduceLE, ↓reduceIte, Nat.reduceAdd, Int.reduceToNat, reduceCtorEq, Nat.reduceLeDiff, catC, k0, k1, k2]
 rw [u_deflate_Inflate_r]
 simp -dsimp (disch := first | assumption | omega | (simp only [vmLen]; done) | (simp only [vmLen]; omega)) only [↓vmPre, vmPost, vmWrd, vmDat, eq_self, forall_const, Nat.reduceLT, Nat.reduceEqDiff, Nat.reduceSub, Nat.reduceMul, Nat.reduceMod, Nat.reduceDiv, Nat.reducePow, UInt8.reduceToNat, Int.reduceEq, Int.reduceLT, Int.reduceLE, ↓reduceIte, Nat.reduceAdd, Int.reduceToNat, reduceCtorEq, Nat.reduceLeDiff, h4, h5, h6]
 rw [hR]; rfl
theorem Res3.frm {J : Option Nat} {H H' : List Ob} (h : Res3 H) (hf : Frm 3 J H H') (hJ : ∀ j, J = some j → 3 < j) : Res3 H' := by
 obtain ⟨k0, k1, k2⟩ := h
 have l2 : 2 < H.length := (List.getElem?_eq_some_iff.1 k2).1
 have g : ∀ i, i < 3 → H'[i]? = H[i]? := fun i hi => hf.2 i (by omega) (by omega) (fun e => by have := hJ _ e; omega)
 exact ⟨(g 0 (by omega)).trans k0, (g 1 (by omega)).trans k1, (g 2 (by omega)).trans k2⟩
theorem Res3.set {k : Nat} {x : Ob} {H : List Ob} (h : Res3 H) (hk : 2 < k) : Res3 (H.set k x) := by
 obtain ⟨k0, k1, k2⟩ := h
 exact ⟨by rw [List.getElem?_set_ne (by omega)]; exact k0, by rw [List.getElem?_set_ne (by omega)]; exact k1, by rw [List.getElem?_set_ne (by omega)]; exact k2⟩

theorem keptI {E : Env} {H : List Ob} {i : Nat} {x : Ob} (h1 : get E 92 = .op 3 0 [(3, 3)]) (h2 : get E 98 = .op 3 0 [(0, 0)]) (hi : i ≠ 3) : Kept [92, 98] E H (H.set i x) := by
 intro s hs j ver p hg
 simp only [List.mem_cons, List.not_mem_nil, or_false] at hs
 rcases hs with rfl | rfl
 ·rw [h1] at hg; cases hg; exact List.getElem?_set_ne hi
 ·rw [h2] at hg; cases hg; exact List.getElem?_set_ne hi
set_option maxHeartbeats 1000000 in
theorem pinfl_end {b l : List UInt8} {B : List Bool} {o : TV} {most win : Int} {J : Option Nat} {H : List Ob} {R : Except Nat (List UInt8 × Nat)} {E : Env} (hst : RdrAt H 3 B o l most win J) (h3 : Res3 H) (hJ : ∀ j, J = some j → 3 < j) (hl : b.length ≤ 1000000) (hBb : B.length ≤ 8 * b.length)
  (hR : R = if (B.drop (B.length % 8)).length < 32 then .error 10 else if numB 4 (B.drop (B.length % 8)) = adl l then .ok (l, b.length - (B.length / 8 - 4)) else .error 10) :
  vwp Tryd.prog c_deflate_Inflate_k7 (atEndG Tryd.prog r_deflate_Inflate 13 (fun x H' => vget (frs H' x) (InflO R)) [.op 0 0 [], .op 1 0 [], .op 2 0 []])
   ((0, slB b) :: (4, .op 0 0 []) :: (5, .op 1 0 []) :: (6, .op 2 0 []) :: (7, .op 3 0 []) :: E) H := by
 obtain ⟨inn, held, count, hBr, h1, h2, h4, ho⟩ := hst.ob
 have hBl := restB_len inn held count
 rw [← hBr] at hBl
 have hC : B.drop (B.length % 8) = allB inn := by
  rw [hBr, restB_len, show (count + 8 * inn.length) % 8 = count by omega, restB_drop (Nat.le_refl _), Nat.sub_self]
  rfl
 have hCl := allB_len inn
 have hB8 : B.length / 8 = inn.length := by omega
 rw [hC, hCl, hB8] at hR
 have hlt := hst.lt
 simp -dsimp (disch := first | assumption | omega | (simp only [vmLen]; done) | (simp only [vmLen]; omega)) only [↓vmPre, vmPost, vmWrd, vmDat, eq_self, forall_const, Nat.reduceLT, Nat.reduceEqDiff, Nat.reduceSub, Nat.reduceMul, Nat.reduceMod, Nat.reduceDiv, Nat.reducePow, UInt8.reduceToNat, Int.reduceEq, Int.reduceLT, Int.reduceLE, ↓reduceIte, Nat.reduceAdd, Int.reduceToNat, reduceCtorEq, Nat.reduceLeDiff, ↓u_deflate_Inflate_k7_e]
 refine VCalls.mono (alignV ho) ?_
 rintro x H4 rfl
 have ho4 : (H.set 3 (rdr inn 0 0 o (i64 most) (i64 win)))[3]? = some (rdr inn 0 0 o (i64 most) (i64 win)) := by simp [hlt]
 have h34 := h3.set (k := 3) (x := rdr inn 0 0 o (i64 most) (i64 win)) (by omega)
 simp -dsimp (disch := first | assumption | omega | (simp only [vmLen]; done) | (simp only [vmLen]; omega)) only [↓vmPre, vmPost, vmWrd, vmDat, eq_self, forall_const, Nat.reduceLT, Nat.reduceEqDiff, Nat.reduceSub, Nat.reduceMul, Nat.reduceMod, Nat.reduceDiv, Nat.reducePow, UInt8.reduceToNat, Int.reduceEq, Int.reduceLT, Int.reduceLE, ↓reduceIte, Nat.reduceAdd, Int.reduceToNat, reduceCtorEq, Nat.reduceLeDiff, ↓u_deflate_Inflate_k6_e, ↓u_deflate_Inflate_k5_e]
 refine (takeV (n := 4) ho4 (by omega) h1).callsP ?_ ?_
 case refine_2 =>
  rintro u H5 ⟨k3, rfl, rfl⟩
  exact caught h34 rfl rfl rfl (by rw [hR, if_pos (by omega)])
 rintro x H5 ⟨k3, rfl, rfl⟩
 rw [if_neg (by omega)] at hR
 rw [List.set_set]
 have h35 := h3.set (k := 3) (x := rdr (inn.drop 4) 0 0 o (i64 most) (i64 win)) (by omega)
 have ho5 : (H.set 3 (rdr (inn.drop 4) 0 0 o (i64 most) (i64 win)))[3]? = some (rdr (inn.drop 4) 0 0 o (i64 most) (i64 win)) := by simp [hlt]
 have hro5 : Row8 (H.set 3 (rdr (inn.drop 4) 0 0 o (i64 most) (i64 win))) o l J := hst.row.set hst.ne
 obtain ⟨H5, hH5⟩ : ∃ H5, H5 = H.set 3 (rdr (inn.drop 4) 0 0 o (i64 most) (i64 win)) := ⟨_, rfl⟩
 rw [← hH5] at h35 ho5 hro5 ⊢
 have hnum : numB 4 (allB inn) = (inn.take 4).foldl (fun s b => s * 256 + b.toNat) 0 := by
  unfold numB
  have := bytesB_allB (l := inn) (n := 4) (a := 0) (by omega)
  simp only [Nat.mul_zero, List.drop_zero] at this
  rw [this]
 obtain ⟨xs, hxs⟩ : ∃ xs, xs = inn.take 4 := ⟨_, rfl⟩
 have hxl : xs.length = 4 := by rw [hxs, List.length_take]; omega
 rw [← hxs] at hnum ⊢
 obtain ⟨sum, hsum⟩ : ∃ sum, sum = fun k => (xs.take k).foldl (fun s (b : UInt8) => s * 256 + b.toNat) 0 := ⟨_, rfl⟩
 have hsl : ∀ k, k ≤ 4 → sum k < 256 ^ k := fun k hk => by
  have h := fold_lt (xs.take k) 0
  have e : (xs.take k).length = k := by rw [List.length_take]; omega
  rw [e, Nat.zero_add, Nat.one_mul] at h
  rw [hsum]; exact h
 simp -dsimp (disch := first | assumption | omega | (simp only [vmLen]; done) | (simp only [vmLen]; omega)) only [↓vmPre, vmPost, vmWrd, vmDat, eq_self, forall_const, Nat.reduceLT, Nat.reduceEqDiff, Nat.reduceSub, Nat.reduceMul, Nat.reduceMod, Nat.reduceDiv, Nat.reducePow, UInt8.reduceToNat, Int.reduceEq, Int.reduceLT, Int.reduceLE, ↓reduceIte, Nat.reduceAdd, Int.reduceToNat, reduceCtorEq, Nat.reduceLeDiff, ↓u_deflate_Inflate_k5_e, hxl]
 refine w_loop (fun q e H' => ∃ k : Nat, q = 4 - k ∧ k ≤ 4 ∧ e = [(0, slB b), (4, .op 0 0 []), (5, .op 1 0 []), (6, .op 2 0 []), (7, .op 3 0 []), (9, u32 (sum k)), (70, slB xs), (71, i64 ((4 : Nat) : Int)), (72, i64 (k : Int))] ∧ H' = H5) 4 ?_ ?_
 ·exact ⟨0, rfl, by omega, by rw [hsum]; rfl, rfl⟩
 ·rintro q e H' ⟨k, rfl, hk, rfl, rfl⟩
  by_cases hlt : k < 4
  ·obtain ⟨c, hc⟩ : ∃ c, xs[k]? = some c := ⟨_, List.getElem?_eq_getElem (by omega)⟩
   have hcl := c.toNat_lt
   have hs1 := hsl k hk
   have hs2 : 256 ^ k ≤ 256 ^ 3 := Nat.pow_le_pow_right (by omega) (by omega)
   have hstep : sum (k + 1) = sum k * 256 + c.toNat := by
    rw [hsum]
    simp only
    rw [List.take_add_one, hc, Option.toList_some, List.foldl_append]
    rfl
   have hor : sum k * 256 ||| c.toNat = sum k * 256 + c.toNat := by
    have := Nat.shiftLeft_add_eq_or_of_lt (i := 8) (b := c.toNat) (by omega) (sum k)
    rw [Nat.shiftLeft_eq] at this
    exact this.symm
   simp -dsimp (disch := first | assumption | omega | (simp only [vmLen]; done) | (simp only [vmLen]; omega)) only [↓vmPre, vmPost, vmWrd, vmDat, eq_self, forall_const, Nat.reduceLT, Nat.reduceEqDiff, Nat.reduceSub, Nat.reduceMul, Nat.reduceMod, Nat.reduceDiv, Nat.reducePow, UInt8.reduceToNat, Int.reduceEq, Int.reduceLT, Int.reduceLE, ↓reduceIte, Nat.reduceAdd, Int.reduceToNat, reduceCtorEq, Nat.reduceLeDiff, ↓u_deflate_Inflate_L2_e, hc, w32_u8, b_shl32, b_or32, hor]
   exact Rnd_keep (4 - (k + 1)) (by omega) (by simp) ⟨k + 1, rfl, by omega, by rw [hstep]; rfl, rfl⟩
  ·have hk4 : k = 4 := by omega
   subst hk4
   have hnum' : numB 4 (allB inn) = sum 4 := by rw [hnum, hsum]; simp only; rw [List.take_of_length_le (by omega)]
   rw [hnum'] at hR
   have hadl := adl_lt l
   have hw := hst.row.width1
   obtain ⟨g0, g1, g2⟩ := id h35
   have hl5 : 3 < H'.length := (List.getElem?_eq_some_iff.1 ho5).1
   have hsub : ((b.length : Int) - ((inn.length - 4 : Nat) : Int)) = ((b.length - (inn.length - 4) : Nat) : Int) := by omega
   have hsl4 := hsl 4 (Nat.le_refl _)
   cases J with
   | none =>
    obtain ⟨rfl, rfl⟩ := hro5
    simp -dsimp (disch := first | assumption | omega | (simp only [vmLen]; done) | (simp only [vmLen]; omega)) only [↓vmPre, vmPost, vmWrd, vmDat, eq_self, forall_const, Nat.reduceLT, Nat.reduceEqDiff, Nat.reduceSub, Nat.reduceMul, Nat.reduceMod, Nat.reduceDiv, Nat.reducePow, UInt8.reduceToNat, Int.reduceEq, Int.reduceLT, Int.reduceLE, ↓reduceIte, Nat.reduceAdd, Int.reduceToNat, reduceCtorEq, Nat.reduceLeDiff, ↓u_deflate_Inflate_L2_e, ↓u_deflate_Inflate_k4_e, ho5]
    refine ((adlerV [] (by simp)).argL (.cons conv_nil .nil)).calls rfl ?_
    rintro _ rfl
    by_cases heq : sum 4 = adl []
    ·rw [if_pos heq] at hR
     simp -dsimp (disch := first | assumption | omega | (simp only [vmLen]; done) | (simp only [vmLen]; omega)) only [↓vmPre, vmPost, vmWrd, vmDat, eq_self, forall_const, Nat.reduceLT, Nat.reduceEqDiff, Nat.reduceSub, Nat.reduceMul, Nat.reduceMod, Nat.reduceDiv, Nat.reducePow, UInt8.reduceToNat, Int.reduceEq, Int.reduceLT, Int.reduceLE, ↓reduceIte, Nat.reduceAdd, Int.reduceToNat, reduceCtorEq, Nat.reduceLeDiff, ↓u_deflate_Inflate_k4_e, ↓u_deflate_Inflate_k3_e, ho5, g0, g1, g2]
     refine ⟨⟨⟨?_, (show Kept [92, 98] _ _ _ from keptI rfl rfl (by omega))⟩, (show Kept [92, 98] _ _ _ from keptI rfl rfl (by omega))⟩, (show Kept [92, 98] _ _ _ from keptI rfl rfl (by omega))⟩
     show res r_deflate_Inflate _ _ _
     rw [u_deflate_Inflate_r]
     simp -dsimp (disch := first | assumption | omega | (simp only [vmLen]; done) | (simp only [vmLen]; omega)) only [↓vmPre, vmPost, vmWrd, vmDat, eq_self, forall_const, Nat.reduceLT, Nat.reduceEqDiff, Nat.reduceSub, Nat.reduceMul, Nat.reduceMod, Nat.reduceDiv, Nat.reducePow, UInt8.reduceToNat, Int.reduceEq, Int.reduceLT, Int.reduceLE, ↓reduceIte, Nat.reduceAdd, Int.reduceToNat, reduceCtorEq, Nat.reduceLeDiff]
     rw [hR]
     exact ⟨_, .inr ⟨rfl, rfl⟩, hst.len, rfl⟩
    ·rw [if_neg heq] at hR
     simp -dsimp (disch := first | assumption | omega | (simp only [vmLen]; done) | (simp only [vmLen]; omega)) only [↓vmPre, vmPost, vmWrd, vmDat, eq_self, forall_const, Nat.reduceLT, Nat.reduceEqDiff, Nat.reduceSub, Nat.reduceMul, Nat.reduceMod, Nat.reduceDiv, Nat.reducePow, UInt8.reduceToNat, Int.reduceEq, Int.reduceLT, Int.reduceLE, ↓reduceIte, Nat.reduceAdd, Int.reduceToNat, reduceCtorEq, Nat.reduceLeDiff, ↓u_deflate_Inflate_k4_e, ho5]
     exact caught h35 rfl rfl rfl hR
   | some j =>
    obtain ⟨v, rfl, hj⟩ := hro5
    have hj3 := hJ j rfl
    have hjl : j < H'.length := (List.getElem?_eq_some_iff.1 hj).1
    simp -dsimp (disch := first | assumption | omega | (simp only [vmLen]; done) | (simp only [vmLen]; omega)) only [↓vmPre, vmPost, vmWrd, vmDat, eq_self, forall_const, Nat.reduceLT, Nat.reduceEqDiff, Nat.reduceSub, Nat.reduceMul, Nat.reduceMod, Nat.reduceDiv, Nat.reducePow, UInt8.reduceToNat, Int.reduceEq, Int.reduceLT, Int.reduceLE, ↓reduceIte, Nat.reduceAdd, Int.reduceToNat, reduceCtorEq, Nat.reduceLeDiff, ↓u_deflate_Inflate_L2_e, ↓u_deflate_Inflate_k4_e, ho5]
    refine (adlerV l hst.len).lends (args' := [slB l]) (by simp -dsimp (disch := first | assumption | omega) only [↓vmPre, vmPost, vmWrd, vmDat, eq_self, forall_const, Nat.reduceLT, Nat.reduceEqDiff, Nat.reduceSub, Nat.reduceMul, Nat.reduceMod, Nat.reduceDiv, Nat.reducePow, UInt8.reduceToNat, Int.reduceEq, Int.reduceLT, Int.reduceLE, ↓reduceIte, Nat.reduceAdd, Int.reduceToNat, reduceCtorEq, Nat.reduceLeDiff, hj]) ?_
    rintro _ rfl
    refine ⟨rfl, ?_⟩
    by_cases heq : sum 4 = adl l
    ·rw [if_pos heq] at hR
     have hjs : ∀ (x y z : Ob), (((H'.set 0 x).set 1 y).set 2 z)[j]? = some (.obj v (.arr l.length 1 (l.map by8))) := fun x y z => by
      rw [List.getElem?_set_ne (by omega), List.getElem?_set_ne (by omega), List.getElem?_set_ne (by omega)]; exact hj
     simp -dsimp (disch := first | assumption | omega | (simp only [vmLen]; done) | (simp only [vmLen]; omega)) only [↓vmPre, vmPost, vmWrd, vmDat, eq_self, forall_const, Nat.reduceLT, Nat.reduceEqDiff, Nat.reduceSub, Nat.reduceMul, Nat.reduceMod, Nat.reduceDiv, Nat.reducePow, UInt8.reduceToNat, Int.reduceEq, Int.reduceLT, Int.reduceLE, ↓reduceIte, Nat.reduceAdd, Int.reduceToNat, reduceCtorEq, Nat.reduceLeDiff, ↓u_deflate_Inflate_k4_e, ↓u_deflate_Inflate_k3_e, ho5, g0, g1, g2]
     refine ⟨⟨⟨?_, (show Kept [92, 98] _ _ _ from keptI rfl rfl (by omega))⟩, (show Kept [92, 98] _ _ _ from keptI rfl rfl (by omega))⟩, (show Kept [92, 98] _ _ _ from keptI rfl rfl (by omega))⟩
     show res r_deflate_Inflate _ _ _
     rw [u_deflate_Inflate_r]
     simp -dsimp (disch := first | assumption | omega | (simp only [vmLen]; done) | (simp only [vmLen]; omega)) only [↓vmPre, vmPost, vmWrd, vmDat, eq_self, forall_const, Nat.reduceLT, Nat.reduceEqDiff, Nat.reduceSub, Nat.reduceMul, Nat.reduceMod, Nat.reduceDiv, Nat.reducePow, UInt8.reduceToNat, Int.reduceEq, Int.reduceLT, Int.reduceLE, ↓reduceIte, Nat.reduceAdd, Int.reduceToNat, reduceCtorEq, Nat.reduceLeDiff, hjs]
     rw [hR]
     exact ⟨_, .inl rfl, hst.len, rfl⟩
    ·rw [if_neg heq] at hR
     simp -dsimp (disch := first | assumption | omega | (simp only [vmLen]; done) | (simp only [vmLen]; omega)) only [↓vmPre, vmPost, vmWrd, vmDat, eq_self, forall_const, Nat.reduceLT, Nat.reduceEqDiff, Nat.reduceSub, Nat.reduceMul, Nat.reduceMod, Nat.reduceDiv, Nat.reducePow, UInt8.reduceToNat, Int.reduceEq, Int.reduceLT, Int.reduceLE, ↓reduceIte, Nat.reduceAdd, Int.reduceToNat, reduceCtorEq, Nat.reduceLeDiff, ↓u_deflate_Inflate_k4_e, ho5]
     exact caught h35 rfl rfl rfl hR
end Go.Proofs.YtfgljddikcghhaaDoor

