import Derived.Test.YtfgljddikcghhaaDoorVzPBlock0
namespace Go.Proofs.YtfgljddikcghhaaDoor
open Go.RowKit
variable [Globs] [K_gitlike_deflate_order]
set_option linter.unusedSectionVars false
set_option linter.unusedVariables false
set_option linter.unusedSimpArgs false

theorem four_of : ∀ (l : List UInt8), 4 ≤ l.length → ∃ a b c d r, l = a :: b :: c :: d :: r
 | a :: b :: c :: d :: r, _ => ⟨a, b, c, d, r, rfl⟩
 | [], h => by simp at h
 | [_], h => by simp at h
 | [_, _], h => by simp at h
 | [_, _, _], h => by simp at h
theorem psymsC {id : Nat} {B : List Bool} {o : TV} {l : List UInt8} {most win : Int} {J : Option Nat} {a b : List Nat} {T T2 : List (Int × Int)} {H : List Ob} (fuel : Nat) (hst : RdrAt H id B o l most win J) (hfu : B.length < fuel) (hT : IsTree a T) (hT2 : IsTree b T2) (ha : a.length ≤ 1000) (hb : b.length ≤ 1000) (hm : -9223372036854775808 ≤ most ∧ most ≤ 1000000) (hw : -9223372036854775808 ≤ win ∧ win ≤ 9223372036854775807) :
  VCallsP Tryd.prog 27 [.op id 0 [], treeS T, treeS T2] H
  (fun x H' => Frm id J H H' ∧ ∃ B' l' o' J', syms (rdR a) (rdR b) most win fuel B l = .ok (B', l') ∧ RdrAt H' id B' o' l' most win J' ∧ Jn J J' H)
  (fun u H' => Frm id J H H' ∧ ∃ e, syms (rdR a) (rdR b) most win fuel B l = .error e ∧ u = errE e) := by
 obtain ⟨t1, t2, t3⟩ := hT
 obtain ⟨u1, u2, u3⟩ := hT2
 have := psymsV fuel hst hfu t1 t2 u1 u2 (by rw [t3]; exact rdR_ok a) (fun B y B1 h => by rw [t3] at h; have := (rdC_spec h).1; omega) (fun B y B1 h => by rw [u3] at h; have := (rdC_spec h).1; omega) (by rw [u3]; exact rdR_ok b) hm hw
 rw [t3, u3] at this
 exact this
/-- What a block leaves behind. -/
def PRes (id : Nat) (J : Option Nat) (H : List Ob) (most win : Int) (R : Bool × Res) (x : TV) (H' : List Ob) : Prop :=
 Frm id J H H' ∧ ∃ last B' l' o' J', R = (last, .ok (B', l')) ∧ x = tb last ∧ RdrAt H' id B' o' l' most win J' ∧ Jn J J' H
def PBad (id : Nat) (J : Option Nat) (H : List Ob) (R : Bool × Res) (u : Value) (H' : List Ob) : Prop := Frm id J H H' ∧ ∃ b e, R = (b, .error e) ∧ u = errE e
set_option maxHeartbeats 1000000 in
theorem pblockV {id : Nat} {B : List Bool} {o : TV} {l : List UInt8} {most win : Int} {J : Option Nat} {H : List Ob} (hst : RdrAt H id B o l most win J) (hm : -9223372036854775808 ≤ most ∧ most ≤ 1000000) (hw : -9223372036854775808 ≤ win ∧ win ≤ 9223372036854775807) :
  VCallsP Tryd.prog 14 [.op id 0 []] H (PRes id J H most win (blockP okC rdR most win B l)) (PBad id J H (blockP okC rdR most win B l)) := by
 obtain ⟨R, hR⟩ : ∃ R, R = blockP okC rdR most win B l := ⟨_, rfl⟩
 rw [← hR]
 unfold blockP at hR
 refine gp_deflate_reader_block (by simp) ?_
 simp -dsimp (disch := first | assumption | omega | (simp only [vmLen]; done) | (simp only [vmLen]; omega)) only [↓vmPre, vmPost, vmWrd, vmDat, eq_self, forall_const, Nat.reduceLT, Nat.reduceEqDiff, Nat.reduceSub, Nat.reduceMul, Nat.reduceMod, Nat.reduceDiv, Nat.reducePow, UInt8.reduceToNat, Int.reduceEq, Int.reduceLT, Int.reduceLE, ↓reduceIte, Nat.reduceAdd, Int.reduceToNat, reduceCtorEq, Nat.reduceLeDiff, ↓u_deflate_reader_block]
 refine (bitsS hst (n := 1) (by omega)).callsP ?_ ?_
 case refine_2 =>
  rintro u H2 ⟨k1, rfl, k3⟩
  exact ⟨k3.weak, true, 10, by rw [hR, if_pos (by omega)], rfl⟩
 rintro x H2 ⟨f2, l2, k1, rfl, s2⟩
 obtain ⟨v1, hv1⟩ : ∃ v, v = valN (B.take 1) := ⟨_, rfl⟩
 have hv1l : v1 < 2 := by have := bits_le 1 B; omega
 rw [← hv1] at hR ⊢
 simp -dsimp (disch := first | assumption | omega | (simp only [vmLen]; done) | (simp only [vmLen]; omega)) only [↓vmPre, vmPost, vmWrd, vmDat, eq_self, forall_const, Nat.reduceLT, Nat.reduceEqDiff, Nat.reduceSub, Nat.reduceMul, Nat.reduceMod, Nat.reduceDiv, Nat.reducePow, UInt8.reduceToNat, Int.reduceEq, Int.reduceLT, Int.reduceLE, ↓reduceIte, Nat.reduceAdd, Int.reduceToNat, reduceCtorEq, Nat.reduceLeDiff, ↓u_deflate_reader_block]
 refine (bitsS s2 (n := 2) (by omega)).callsP ?_ ?_
 case refine_2 =>
  rintro u H3 ⟨k2, rfl, k3⟩
  rw [List.length_drop] at k2
  exact ⟨(f2.trans Jn.refl k3).weak, true, 10, by rw [hR, if_pos (by omega)], rfl⟩
 rintro x H3 ⟨f3, l3, k2, rfl, s3⟩
 rw [List.length_drop] at k2
 obtain ⟨v2, hv2⟩ : ∃ v, v = valN ((B.drop 1).take 2) := ⟨_, rfl⟩
 have hv2l : v2 < 4 := by have := bits_le 2 (B.drop 1); omega
 rw [← hv2] at hR ⊢
 rw [List.drop_drop] at s3
 rw [if_neg (by omega)] at hR
 have hF3 : Frm id J H H3 := (f2.trans Jn.refl f3).weak
 have hid3 := s3.lt
 have hlast : tb (decide (v1 = 1)) = tb (v1 == 1) := by
  have : v1 = 0 ∨ v1 = 1 := by omega
  rcases this with e | e <;> subst e <;> rfl
 have hB3 : (B.drop (1 + 2)).length < B.length + 1 := by rw [List.length_drop]; omega
 have hcase : v2 = 0 ∨ v2 = 1 ∨ v2 = 2 ∨ v2 = 3 := by omega
 rcases hcase with e2 | e2 | e2 | e2
 ·rw [e2] at hR ⊢
  rw [kindP] at hR
  obtain ⟨inn, held, count, hBr, h1, h2, h3, ho⟩ := s3.ob
  have hC : (B.drop (1 + 2)).drop ((B.drop (1 + 2)).length % 8) = allB inn := by
   rw [hBr, restB_len, show (count + 8 * inn.length) % 8 = count by omega, restB_drop (Nat.le_refl _), Nat.sub_self]
   rfl
  have hCl := allB_len inn
  unfold storedP at hR
  simp only at hR
  rw [show B.drop 3 = B.drop (1 + 2) from rfl, hC, hCl] at hR
  simp -dsimp (disch := first | assumption | omega | (simp only [vmLen]; done) | (simp only [vmLen]; omega)) only [↓vmPre, vmPost, vmWrd, vmDat, eq_self, forall_const, Nat.reduceLT, Nat.reduceEqDiff, Nat.reduceSub, Nat.reduceMul, Nat.reduceMod, Nat.reduceDiv, Nat.reducePow, UInt8.reduceToNat, Int.reduceEq, Int.reduceLT, Int.reduceLE, ↓reduceIte, Nat.reduceAdd, Int.reduceToNat, reduceCtorEq, Nat.reduceLeDiff, ↓u_deflate_reader_block]
  refine VCalls.mono (alignV ho) ?_
  rintro x H4 rfl
  have ho4 : (H3.set id (rdr inn 0 0 o (i64 most) (i64 win)))[id]? = some (rdr inn 0 0 o (i64 most) (i64 win)) := by simp [hid3]
  have hF4 : Frm id J H (H3.set id (rdr inn 0 0 o (i64 most) (i64 win))) := hF3.trans Jn.refl Frm.set
  simp -dsimp (disch := first | assumption | omega | (simp only [vmLen]; done) | (simp only [vmLen]; omega)) only [↓vmPre, vmPost, vmWrd, vmDat, eq_self, forall_const, Nat.reduceLT, Nat.reduceEqDiff, Nat.reduceSub, Nat.reduceMul, Nat.reduceMod, Nat.reduceDiv, Nat.reducePow, UInt8.reduceToNat, Int.reduceEq, Int.reduceLT, Int.reduceLE, ↓reduceIte, Nat.reduceAdd, Int.reduceToNat, reduceCtorEq, Nat.reduceLeDiff, ↓u_deflate_reader_block]
  refine (takeV (n := 4) ho4 (by omega) h1).callsP ?_ ?_
  case refine_2 =>
   rintro u H5 ⟨k3, rfl, rfl⟩
   exact ⟨hF4, _, 10, by rw [hR, if_pos (.inl (by omega))], rfl⟩
  rintro x H5 ⟨k3, rfl, rfl⟩
  obtain ⟨a, b, c, d, r, rfl⟩ := four_of inn k3
  have hv16 := val16 a b (c :: d :: r)
  have hd16 : (allB (a :: b :: c :: d :: r)).drop 16 = allB (c :: d :: r) := by rw [allB_drop 2]; rfl
  have hd32 : (allB (a :: b :: c :: d :: r)).drop 32 = allB r := by rw [allB_drop 4]; rfl
  have hv16' := val16 c d r
  rw [hv16, hd16, hv16', hd32] at hR
  have hal := a.toNat_lt
  have hbl := b.toNat_lt
  have hcl := c.toNat_lt
  have hdl := d.toNat_lt
  obtain ⟨n, hn⟩ : ∃ n, n = a.toNat + 256 * b.toNat := ⟨_, rfl⟩
  obtain ⟨m, hm'⟩ : ∃ m, m = c.toNat + 256 * d.toNat := ⟨_, rfl⟩
  rw [← hn, ← hm'] at hR
  have hor1 : a.toNat ||| b.toNat * 2 ^ 8 = n := by rw [or_add (by omega : a.toNat < 2 ^ 8)]; omega
  have hor2 : c.toNat ||| d.toNat * 2 ^ 8 = m := by rw [or_add (by omega : c.toNat < 2 ^ 8)]; omega
  have hxor := xor_all n (by omega)
  have hll : (a :: b :: c :: d :: r).length = r.length + 4 := rfl
  simp -dsimp (disch := first | assumption | omega | (simp only [vmLen]; done) | (simp only [vmLen]; omega)) only [↓vmPre, vmPost, vmWrd, vmDat, eq_self, forall_const, Nat.reduceLT, Nat.reduceEqDiff, Nat.reduceSub, Nat.reduceMul, Nat.reduceMod, Nat.reduceDiv, Nat.reducePow, UInt8.reduceToNat, Int.reduceEq, Int.reduceLT, Int.reduceLE, ↓reduceIte, Nat.reduceAdd, Int.reduceToNat, reduceCtorEq, Nat.reduceLeDiff, ↓u_deflate_reader_block, hor1, hor2, b_xor64, hxor]
  by_cases hne : 65535 - n = m
  case neg =>
   simp -dsimp (disch := first | assumption | omega | (simp only [vmLen]; done) | (simp only [vmLen]; omega)) only [↓vmPre, vmPost, vmWrd, vmDat, eq_self, forall_const, Nat.reduceLT, Nat.reduceEqDiff, Nat.reduceSub, Nat.reduceMul, Nat.reduceMod, Nat.reduceDiv, Nat.reducePow, UInt8.reduceToNat, Int.reduceEq, Int.reduceLT, Int.reduceLE, ↓reduceIte, Nat.reduceAdd, Int.reduceToNat, reduceCtorEq, Nat.reduceLeDiff, ↓u_deflate_reader_block]
   exact ⟨hF3.trans Jn.refl Frm.set, _, 10, by rw [hR, if_pos (.inr (.inl (by omega)))], rfl⟩
  have ho5 : (H3.set id (rdr r 0 0 o (i64 most) (i64 win)))[id]? = some (rdr r 0 0 o (i64 most) (i64 win)) := by simp [hid3]
  have hrl : r.length ≤ 1000000 := by rw [hll] at h1; omega
  simp -dsimp (disch := first | assumption | omega | (simp only [vmLen]; done) | (simp only [vmLen]; omega)) only [↓vmPre, vmPost, vmWrd, vmDat, eq_self, forall_const, Nat.reduceLT, Nat.reduceEqDiff, Nat.reduceSub, Nat.reduceMul, Nat.reduceMod, Nat.reduceDiv, Nat.reducePow, UInt8.reduceToNat, Int.reduceEq, Int.reduceLT, Int.reduceLE, ↓reduceIte, Nat.reduceAdd, Int.reduceToNat, reduceCtorEq, Nat.reduceLeDiff, ↓u_deflate_reader_block]
  refine (takeV (n := n) ho5 (by omega) hrl).callsP ?_ ?_
  case refine_2 =>
   rintro u H5 ⟨k4, rfl, rfl⟩
   exact ⟨hF3.trans Jn.refl Frm.set, _, 10, by rw [hR, if_pos (.inr (.inr (by rw [hll]; omega)))], rfl⟩
  rintro x H5 ⟨k4, rfl, rfl⟩
  rw [if_neg (by rw [hll]; omega)] at hR
  have hby : bytesB n (allB r) = r.take n := by have := bytesB_allB (l := r) (n := n) (a := 0) (by omega); simpa using this
  have hdr : (allB (a :: b :: c :: d :: r)).drop (32 + 8 * n) = allB (r.drop n) := by rw [show 32 + 8 * n = 8 * (4 + n) by omega, allB_drop, ← List.drop_drop]; rfl
  rw [hby, hdr] at hR
  (try rw [List.set_set])
  have s5 : RdrAt (H3.set id (rdr (r.drop n) 0 0 o (i64 most) (i64 win))) id (allB (r.drop n)) o l most win J := ⟨⟨r.drop n, 0, 0, rfl, by simp; omega, by omega, by simp, by simp [hid3]⟩, s3.row.set s3.ne, s3.ne, s3.len⟩
  have hF5 : Frm id J H (H3.set id (rdr (r.drop n) 0 0 o (i64 most) (i64 win))) := hF3.trans Jn.refl Frm.set
  generalize H3.set id (rdr (r.drop n) 0 0 o (i64 most) (i64 win)) = H6 at *
  obtain ⟨xs, hxs⟩ : ∃ xs, xs = r.take n := ⟨_, rfl⟩
  have hxl : xs.length = n := by rw [hxs, List.length_take]; omega
  rw [← hxs] at hR
  simp -dsimp (disch := first | assumption | omega | (simp only [vmLen]; done) | (simp only [vmLen]; omega)) only [↓vmPre, vmPost, vmWrd, vmDat, eq_self, forall_const, Nat.reduceLT, Nat.reduceEqDiff, Nat.reduceSub, Nat.reduceMul, Nat.reduceMod, Nat.reduceDiv, Nat.reducePow, UInt8.reduceToNat, Int.reduceEq, Int.reduceLT, Int.reduceLE, ↓reduceIte, Nat.reduceAdd, Int.reduceToNat, reduceCtorEq, Nat.reduceLeDiff, ↓u_deflate_reader_block, ← hxs, hxl]
  refine w_loop (fun q e H' => ∃ (k : Nat) (l' : List UInt8) (J' : Option Nat) (o' : TV), q = n - k ∧ k ≤ n ∧ e = [(0, .op id 0 []), (3, tb (decide (v1 = 1))), (50, slB xs), (51, i64 (n : Int)), (52, i64 (k : Int))] ∧ Frm id J H6 H' ∧ putsP most l xs = putsP most l' (xs.drop k) ∧ RdrAt H' id (allB (r.drop n)) o' l' most win J' ∧ Jn J J' H6) n ?_ ?_
  ·exact ⟨0, l, J, o, rfl, by omega, rfl, Frm.refl, rfl, s5, Jn.refl⟩
  ·rintro q e H' ⟨k, l', J', o', rfl, hk, rfl, hfr, hpu, hs, hj⟩
   by_cases hlt : k < n
   ·obtain ⟨b', hb'⟩ : ∃ b', xs[k]? = some b' := ⟨_, List.getElem?_eq_getElem (by omega)⟩
    have hxk : xs.drop k = b' :: xs.drop (k + 1) := by
     obtain ⟨g1, g2⟩ := List.getElem?_eq_some_iff.1 hb'
     rw [List.drop_eq_getElem_cons g1, g2]
    rw [hxk, putsP] at hpu
    simp -dsimp (disch := first | assumption | omega | (simp only [vmLen]; done) | (simp only [vmLen]; omega)) only [↓vmPre, vmPost, vmWrd, vmDat, eq_self, forall_const, Nat.reduceLT, Nat.reduceEqDiff, Nat.reduceSub, Nat.reduceMul, Nat.reduceMod, Nat.reduceDiv, Nat.reducePow, UInt8.reduceToNat, Int.reduceEq, Int.reduceLT, Int.reduceLE, ↓reduceIte, Nat.reduceAdd, Int.reduceToNat, reduceCtorEq, Nat.reduceLeDiff, ↓u_deflate_reader_block, hb', hxl]
    refine (putS hs hm).callsP ?_ ?_
    ·rintro x H7 ⟨k5, k6, o2, j2, k7, k8⟩
     rw [if_neg (by omega)] at hpu
     simp -dsimp (disch := first | assumption | omega | (simp only [vmLen]; done) | (simp only [vmLen]; omega)) only [↓vmPre, vmPost, vmWrd, vmDat, eq_self, forall_const, Nat.reduceLT, Nat.reduceEqDiff, Nat.reduceSub, Nat.reduceMul, Nat.reduceMod, Nat.reduceDiv, Nat.reducePow, UInt8.reduceToNat, Int.reduceEq, Int.reduceLT, Int.reduceLE, ↓reduceIte, Nat.reduceAdd, Int.reduceToNat, reduceCtorEq, Nat.reduceLeDiff, ↓u_deflate_reader_block]
     exact Rnd_keep (n - (k + 1)) (by omega) (by have := hfr.1; have := k6.1; omega) ⟨k + 1, _, _, _, rfl, by omega, rfl, hfr.trans hj k6, hpu, k8, Jn.trans hfr hj k7⟩
    ·rintro u H7 ⟨k5, rfl, rfl⟩
     rw [if_pos k5] at hpu
     rw [hpu] at hR
     exact ⟨hF5.trans Jn.refl hfr, _, 11, hR, rfl⟩
   ·have hkn : k = n := by omega
    subst hkn
    have hdn : xs.drop k = [] := List.drop_eq_nil_of_le (by omega)
    rw [hdn, putsP] at hpu
    rw [hpu] at hR
    simp -dsimp (disch := first | assumption | omega | (simp only [vmLen]; done) | (simp only [vmLen]; omega)) only [↓vmPre, vmPost, vmWrd, vmDat, eq_self, forall_const, Nat.reduceLT, Nat.reduceEqDiff, Nat.reduceSub, Nat.reduceMul, Nat.reduceMod, Nat.reduceDiv, Nat.reducePow, UInt8.reduceToNat, Int.reduceEq, Int.reduceLT, Int.reduceLE, ↓reduceIte, Nat.reduceAdd, Int.reduceToNat, reduceCtorEq, Nat.reduceLeDiff, ↓u_deflate_reader_block]
    exact ⟨hF5.trans Jn.refl hfr, _, _, l', o', J', hR, hlast, hs, Jn.trans hF5 Jn.refl hj⟩
 ·rw [e2, kindP] at hR
  rw [e2]
  simp -dsimp (disch := first | assumption | omega | (simp only [vmLen]; done) | (simp only [vmLen]; omega)) only [↓vmPre, vmPost, vmWrd, vmDat, eq_self, forall_const, Nat.reduceLT, Nat.reduceEqDiff, Nat.reduceSub, Nat.reduceMul, Nat.reduceMod, Nat.reduceDiv, Nat.reducePow, UInt8.reduceToNat, Int.reduceEq, Int.reduceLT, Int.reduceLE, ↓reduceIte, Nat.reduceAdd, Int.reduceToNat, reduceCtorEq, Nat.reduceLeDiff, ↓u_deflate_reader_block]
  refine fixedV.calls rfl ?_
  rintro _ rfl
  simp -dsimp (disch := first | assumption | omega | (simp only [vmLen]; done) | (simp only [vmLen]; omega)) only [↓vmPre, vmPost, vmWrd, vmDat, eq_self, forall_const, Nat.reduceLT, Nat.reduceEqDiff, Nat.reduceSub, Nat.reduceMul, Nat.reduceMod, Nat.reduceDiv, Nat.reducePow, UInt8.reduceToNat, Int.reduceEq, Int.reduceLT, Int.reduceLE, ↓reduceIte, Nat.reduceAdd, Int.reduceToNat, reduceCtorEq, Nat.reduceLeDiff, ↓u_deflate_reader_block]
  refine (growC (ls := fixL) (few := false) (non := false) (by rw [fixL_len]; omega) fixL_15).lendsP rfl ?_ ?_
  case refine_2 => rintro u ⟨k3, _⟩; rw [ok_fixL] at k3; cases k3
  rintro _ ⟨_, T, rfl, hT⟩
  simp -dsimp (disch := first | assumption | omega | (simp only [vmLen]; done) | (simp only [vmLen]; omega)) only [↓vmPre, vmPost, vmWrd, vmDat, eq_self, forall_const, Nat.reduceLT, Nat.reduceEqDiff, Nat.reduceSub, Nat.reduceMul, Nat.reduceMod, Nat.reduceDiv, Nat.reducePow, UInt8.reduceToNat, Int.reduceEq, Int.reduceLT, Int.reduceLE, ↓reduceIte, Nat.reduceAdd, Int.reduceToNat, reduceCtorEq, Nat.reduceLeDiff, ↓u_deflate_reader_block]
  refine (growC (ls := fixD) (few := false) (non := false) (by rw [fixD_len]; omega) fixD_15).lendsP rfl ?_ ?_
  case refine_2 => rintro u ⟨k3, _⟩; rw [ok_fixD] at k3; cases k3
  rintro _ ⟨_, T2, rfl, hT2⟩
  simp -dsimp (disch := first | assumption | omega | (simp only [vmLen]; done) | (simp only [vmLen]; omega)) only [↓vmPre, vmPost, vmWrd, vmDat, eq_self, forall_const, Nat.reduceLT, Nat.reduceEqDiff, Nat.reduceSub, Nat.reduceMul, Nat.reduceMod, Nat.reduceDiv, Nat.reducePow, UInt8.reduceToNat, Int.reduceEq, Int.reduceLT, Int.reduceLE, ↓reduceIte, Nat.reduceAdd, Int.reduceToNat, reduceCtorEq, Nat.reduceLeDiff, ↓u_deflate_reader_block]
  refine (psymsC (B.length + 1) s3 hB3 hT hT2 (by rw [fixL_len]; omega) (by rw [fixD_len]; omega) hm hw).callsP ?_ ?_
  ·rintro x H4 ⟨f4, B', l', o', J', k3, k4, k5⟩
   simp -dsimp (disch := first | assumption | omega | (simp only [vmLen]; done) | (simp only [vmLen]; omega)) only [↓vmPre, vmPost, vmWrd, vmDat, eq_self, forall_const, Nat.reduceLT, Nat.reduceEqDiff, Nat.reduceSub, Nat.reduceMul, Nat.reduceMod, Nat.reduceDiv, Nat.reducePow, UInt8.reduceToNat, Int.reduceEq, Int.reduceLT, Int.reduceLE, ↓reduceIte, Nat.reduceAdd, Int.reduceToNat, reduceCtorEq, Nat.reduceLeDiff, ↓u_deflate_reader_block]
   exact ⟨hF3.trans Jn.refl f4, _, B', l', o', J', by rw [hR, k3], hlast, k4, Jn.trans hF3 Jn.refl k5⟩
  ·rintro u H4 ⟨f4, e, k3, rfl⟩
   exact ⟨hF3.trans Jn.refl f4, _, e, by rw [hR, k3], rfl⟩
 ·rw [e2, kindP] at hR
  rw [e2]
  simp -dsimp (disch := first | assumption | omega | (simp only [vmLen]; done) | (simp only [vmLen]; omega)) only [↓vmPre, vmPost, vmWrd, vmDat, eq_self, forall_const, Nat.reduceLT, Nat.reduceEqDiff, Nat.reduceSub, Nat.reduceMul, Nat.reduceMod, Nat.reduceDiv, Nat.reducePow, UInt8.reduceToNat, Int.reduceEq, Int.reduceLT, Int.reduceLE, ↓reduceIte, Nat.reduceAdd, Int.reduceToNat, reduceCtorEq, Nat.reduceLeDiff, ↓u_deflate_reader_block]
  refine (ptoldV s3).callsP ?_ ?_
  case refine_2 =>
   rintro u H4 ⟨f4, k3, rfl⟩
   have k3' : toldP okC rdR (B.drop 3) = none := k3
   rw [k3'] at hR
   exact ⟨hF3.trans Jn.refl f4.weak, _, 10, hR, rfl⟩
  rintro x H4 ⟨f4, a, b, B4, k3, rfl, s4⟩
  have k3' : toldP okC rdR (B.drop 3) = some (a, b, B4) := k3
  rw [k3'] at hR
  simp only at hR
  obtain ⟨⟨ha1, ha2⟩, hb1, hb2⟩ := told_le k3'
  have hlen4 := toldP_len rdR_ok k3'
  have hlen3 : (B.drop 3).length = B.length - 3 := List.length_drop
  have hF4 : Frm id J H H4 := hF3.trans Jn.refl f4.weak
  simp -dsimp (disch := first | assumption | omega | (simp only [vmLen]; done) | (simp only [vmLen]; omega)) only [↓vmPre, vmPost, vmWrd, vmDat, eq_self, forall_const, Nat.reduceLT, Nat.reduceEqDiff, Nat.reduceSub, Nat.reduceMul, Nat.reduceMod, Nat.reduceDiv, Nat.reducePow, UInt8.reduceToNat, Int.reduceEq, Int.reduceLT, Int.reduceLE, ↓reduceIte, Nat.reduceAdd, Int.reduceToNat, reduceCtorEq, Nat.reduceLeDiff, ↓u_deflate_reader_block]
  refine (growC (ls := a) (few := true) (non := false) ha1 ha2).lendsP rfl ?_ ?_
  case refine_2 =>
   rintro u ⟨k5, rfl⟩
   rw [k5] at hR
   exact ⟨hF4, _, 10, hR, rfl⟩
  rintro _ ⟨hka, T, rfl, hT⟩
  simp -dsimp (disch := first | assumption | omega | (simp only [vmLen]; done) | (simp only [vmLen]; omega)) only [↓vmPre, vmPost, vmWrd, vmDat, eq_self, forall_const, Nat.reduceLT, Nat.reduceEqDiff, Nat.reduceSub, Nat.reduceMul, Nat.reduceMod, Nat.reduceDiv, Nat.reducePow, UInt8.reduceToNat, Int.reduceEq, Int.reduceLT, Int.reduceLE, ↓reduceIte, Nat.reduceAdd, Int.reduceToNat, reduceCtorEq, Nat.reduceLeDiff, ↓u_deflate_reader_block]
  refine (growC (ls := b) (few := true) (non := true) hb1 hb2).lendsP rfl ?_ ?_
  case refine_2 =>
   rintro u ⟨k5, rfl⟩
   rw [hka, k5] at hR
   exact ⟨hF4, _, 10, hR, rfl⟩
  rintro _ ⟨hkb, T2, rfl, hT2⟩
  rw [hka, hkb, Bool.and_self, if_pos rfl] at hR
  simp -dsimp (disch := first | assumption | omega | (simp only [vmLen]; done) | (simp only [vmLen]; omega)) only [↓vmPre, vmPost, vmWrd, vmDat, eq_self, forall_const, Nat.reduceLT, Nat.reduceEqDiff, Nat.reduceSub, Nat.reduceMul, Nat.reduceMod, Nat.reduceDiv, Nat.reducePow, UInt8.reduceToNat, Int.reduceEq, Int.reduceLT, Int.reduceLE, ↓reduceIte, Nat.reduceAdd, Int.reduceToNat, reduceCtorEq, Nat.reduceLeDiff, ↓u_deflate_reader_block]
  refine (psymsC (B.length + 1) s4 (by omega) hT hT2 ha1 hb1 hm hw).callsP ?_ ?_
  ·rintro x H5 ⟨f5, B', l', o', J', k6, k4, k5⟩
   simp -dsimp (disch := first | assumption | omega | (simp only [vmLen]; done) | (simp only [vmLen]; omega)) only [↓vmPre, vmPost, vmWrd, vmDat, eq_self, forall_const, Nat.reduceLT, Nat.reduceEqDiff, Nat.reduceSub, Nat.reduceMul, Nat.reduceMod, Nat.reduceDiv, Nat.reducePow, UInt8.reduceToNat, Int.reduceEq, Int.reduceLT, Int.reduceLE, ↓reduceIte, Nat.reduceAdd, Int.reduceToNat, reduceCtorEq, Nat.reduceLeDiff, ↓u_deflate_reader_block]
   exact ⟨hF4.trans Jn.refl f5, _, B', l', o', J', by rw [hR, k6], hlast, k4, Jn.trans hF4 Jn.refl k5⟩
  ·rintro u H5 ⟨f5, e, k6, rfl⟩
   exact ⟨hF4.trans Jn.refl f5, _, e, by rw [hR, k6], rfl⟩
 ·rw [e2] at hR ⊢
  simp -dsimp (disch := first | assumption | omega | (simp only [vmLen]; done) | (simp only [vmLen]; omega)) only [↓vmPre, vmPost, vmWrd, vmDat, eq_self, forall_const, Nat.reduceLT, Nat.reduceEqDiff, Nat.reduceSub, Nat.reduceMul, Nat.reduceMod, Nat.reduceDiv, Nat.reducePow, UInt8.reduceToNat, Int.reduceEq, Int.reduceLT, Int.reduceLE, ↓reduceIte, Nat.reduceAdd, Int.reduceToNat, reduceCtorEq, Nat.reduceLeDiff, ↓u_deflate_reader_block]
  exact ⟨hF3, _, 10, hR, rfl⟩
end Go.Proofs.YtfgljddikcghhaaDoor

