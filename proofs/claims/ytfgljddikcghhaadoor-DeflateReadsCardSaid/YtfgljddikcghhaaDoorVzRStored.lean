import Derived.Test.YtfgljddikcghhaaDoorVzRTold
namespace Go.Proofs.YtfgljddikcghhaaDoor
open Go.RowKit
variable [Globs]
set_option linter.unusedSectionVars false
set_option linter.unusedVariables false
set_option linter.unusedSimpArgs false

section
omit [Globs]
theorem allB_cons (x : UInt8) (l : List UInt8) : allB (x :: l) = bitsN 8 x.toNat ++ allB l := rfl
theorem allB_drop : ∀ (k : Nat) (l : List UInt8), (allB l).drop (8 * k) = allB (l.drop k)
 | 0, l => by simp
 | k + 1, [] => by simp [allB]
 | k + 1, x :: l => by
  rw [allB_cons, List.drop_append, bitsN_len, List.drop_eq_nil_of_le (by rw [bitsN_len]; omega), List.nil_append, show 8 * (k + 1) - 8 = 8 * k by omega, allB_drop k l, List.drop_succ_cons]
theorem allB_byte {l : List UInt8} {k : Nat} {c : UInt8} (h : l[k]? = some c) : valN (((allB l).drop (8 * k)).take 8) = c.toNat := by
 obtain ⟨hk, rfl⟩ := List.getElem?_eq_some_iff.1 h
 rw [allB_drop, List.drop_eq_getElem_cons hk, allB_cons, List.take_append_of_le_length (by rw [bitsN_len]; omega), List.take_of_length_le (by rw [bitsN_len]; omega), valN_bits]
 have := l[k].toNat_lt
 omega
theorem bytesB_allB {l : List UInt8} {n a : Nat} (h : a + n ≤ l.length) : bytesB n ((allB l).drop (8 * a)) = (l.drop a).take n := by
 apply List.ext_getElem?
 intro i
 unfold bytesB
 rw [List.getElem?_map]
 by_cases hi : i < n
 ·obtain ⟨c, hc⟩ : ∃ c, l[a + i]? = some c := ⟨_, List.getElem?_eq_getElem (by omega)⟩
  have h1 : (List.range n)[i]? = some i := by simp [hi]
  rw [List.getElem?_take, if_pos hi, List.getElem?_drop, hc]
  have h2 := allB_byte hc
  rw [h1, Option.map_some, List.drop_drop, show 8 * a + 8 * i = 8 * (a + i) by omega, h2]
  simp
 ·rw [List.getElem?_take, if_neg hi]
  have h1 : (List.range n)[i]? = none := by simp; omega
  simp [h1]
end
/-- Behind an error no byte comes out. -/
theorem sputE {id err at_ : Nat} {inn : List UInt8} {o : TV} {m f : Int} {b : UInt8} {H : List Ob} (hw : width o = 1) (he : err ≠ 0) (h : H[id]? = some (stm inn at_ o m f err)) : VCalls Tryd.prog 53 [.op id 0 [], by8 b] H (fun x H' => H' = H) := by
 have hid : id < H.length := (List.getElem?_eq_some_iff.1 h).1
 refine go_ref1_Stream_put (by simp) ?_
 simp -dsimp (disch := first | assumption | omega | (simp only [vmLen]; done) | (simp only [vmLen]; omega)) only [↓vmPre, vmPost, vmWrd, vmDat, eq_self, forall_const, Nat.reduceLT, Nat.reduceEqDiff, Nat.reduceSub, Nat.reduceMul, Nat.reduceMod, Nat.reduceDiv, Nat.reducePow, UInt8.reduceToNat, Int.reduceEq, Int.reduceLT, Int.reduceLE, ↓reduceIte, Nat.reduceAdd, Int.reduceToNat, reduceCtorEq, Nat.reduceLeDiff, ↓u_ref1_Stream_put, h, hw]
/-- What a block leaves behind. -/
def ResPost (id : Nat) (J : Option Nat) (H : List Ob) (inn : List UInt8) (most win : Int) (R : Res) (H' : List Ob) : Prop := Frm id J H H' ∧ match R with
 | .ok (B, l') => ∃ at' o' J', B = (allB inn).drop at' ∧ StmOk H' id inn at' o' l' most win J' ∧ Jn J J' H
 | .error e => StmBad H' id inn most win e
theorem rstoredV {id at_ : Nat} {inn l : List UInt8} {o : TV} {most win : Int} {J : Option Nat} {H : List Ob} (hst : StmOk H id inn at_ o l most win J) (hi : inn.length ≤ 1000000) (hm : -9223372036854775808 ≤ most ∧ most ≤ 1000000) :
  VCalls Tryd.prog 36 [.op id 0 []] H (fun x H' => ResPost id J H inn most win (storedP most ((allB inn).drop at_) l) H') := by
 have hid := hst.lt
 have hat := hst.at_
 have ho := hst.ob
 have hw := hst.row.width1
 refine go_ref1_Stream_stored (by simp) ?_
 obtain ⟨A, hA⟩ : ∃ A, A = (at_ + 7) / 8 := ⟨_, rfl⟩
 have hAl : A ≤ inn.length := by omega
 have hB : ((allB inn).drop at_).length = 8 * inn.length - at_ := by rw [List.length_drop, allB_len]
 have hC : ((allB inn).drop at_).drop (((allB inn).drop at_).length % 8) = (allB inn).drop (8 * A) := by rw [List.drop_drop, hB]; congr 1; omega
 have hCl : ((allB inn).drop (8 * A)).length = 8 * (inn.length - A) := by rw [List.length_drop, allB_len]; omega
 obtain ⟨R, hR⟩ : ∃ R, R = storedP most ((allB inn).drop at_) l := ⟨_, rfl⟩
 rw [← hR]
 unfold storedP at hR
 simp only [hC] at hR
 simp -dsimp (disch := first | assumption | omega | (simp only [vmLen]; done) | (simp only [vmLen]; omega)) only [↓vmPre, vmPost, vmWrd, vmDat, eq_self, forall_const, Nat.reduceLT, Nat.reduceEqDiff, Nat.reduceSub, Nat.reduceMul, Nat.reduceMod, Nat.reduceDiv, Nat.reducePow, UInt8.reduceToNat, Int.reduceEq, Int.reduceLT, Int.reduceLE, ↓reduceIte, Nat.reduceAdd, Int.reduceToNat, reduceCtorEq, Nat.reduceLeDiff, ↓u_ref1_Stream_stored, ho, hw]
 rw [← hA, show A * 8 = 8 * A by omega]
 have s1 : StmX (H.set id (stm inn (8 * A) o most win 0)) id inn (8 * A) o l most win J true := ⟨by simp [hid], hst.row.set hst.ne, hst.ne, fun _ => by omega, hst.len⟩
 refine VCalls.mono (sbitsX (n := 16) s1 (by omega) hi) ?_
 rintro x H2 ⟨f2, l2, s2, hx⟩
 rw [Bool.true_and] at hx s2
 obtain ⟨v1, hv1⟩ : ∃ v : Nat, v = (if decide (16 ≤ ((allB inn).drop (8 * A)).length) = true then valN (((allB inn).drop (8 * A)).take 16) else 0) := ⟨_, rfl⟩
 rw [← hv1] at hx
 subst hx
 have hv1l : v1 < 65536 := by have := bits_le 16 ((allB inn).drop (8 * A)); rw [hv1]; split <;> omega
 simp -dsimp (disch := first | assumption | omega | (simp only [vmLen]; done) | (simp only [vmLen]; omega)) only [↓vmPre, vmPost, vmWrd, vmDat, eq_self, forall_const, Nat.reduceLT, Nat.reduceEqDiff, Nat.reduceSub, Nat.reduceMul, Nat.reduceMod, Nat.reduceDiv, Nat.reducePow, UInt8.reduceToNat, Int.reduceEq, Int.reduceLT, Int.reduceLE, ↓reduceIte, Nat.reduceAdd, Int.reduceToNat, reduceCtorEq, Nat.reduceLeDiff, ↓u_ref1_Stream_stored]
 refine VCalls.mono (sbitsX (n := 16) s2 (by omega) hi) ?_
 rintro x H3 ⟨f3, l3, s3, hx⟩
 obtain ⟨v2, hv2⟩ : ∃ v : Nat, v = (if (decide (16 ≤ ((allB inn).drop (8 * A)).length) && decide (16 ≤ ((allB inn).drop (8 * A + 16)).length)) = true then valN (((allB inn).drop (8 * A + 16)).take 16) else 0) := ⟨_, rfl⟩
 rw [← hv2] at hx
 subst hx
 have hv2l : v2 < 65536 := by have := bits_le 16 ((allB inn).drop (8 * A + 16)); rw [hv2]; split <;> omega
 have hok : (decide (16 ≤ ((allB inn).drop (8 * A)).length) && decide (16 ≤ ((allB inn).drop (8 * A + 16)).length)) = decide (32 ≤ ((allB inn).drop (8 * A)).length) := by
  rw [← Bool.decide_and]
  congr 1
  simp only [List.length_drop]
  apply propext; omega
 rw [hok] at s3 hv2
 have hF3 : Frm id none H H3 := (Frm.set.trans Jn.refl f2).trans Jn.refl f3
 have ho3 := s3.ob
 by_cases h32 : 32 ≤ ((allB inn).drop (8 * A)).length
 case neg =>
  rw [decide_eq_false h32] at s3 ho3
  simp only [Bool.false_eq_true, if_false] at ho3
  rw [if_pos (.inl (by omega))] at hR
  simp -dsimp (disch := first | assumption | omega | (simp only [vmLen]; done) | (simp only [vmLen]; omega)) only [↓vmPre, vmPost, vmWrd, vmDat, eq_self, forall_const, Nat.reduceLT, Nat.reduceEqDiff, Nat.reduceSub, Nat.reduceMul, Nat.reduceMod, Nat.reduceDiv, Nat.reducePow, UInt8.reduceToNat, Int.reduceEq, Int.reduceLT, Int.reduceLE, ↓reduceIte, Nat.reduceAdd, Int.reduceToNat, reduceCtorEq, Nat.reduceLeDiff, ↓u_ref1_Stream_stored, ho3, hw]
  refine VCalls.mono (failV (e := 10) hw ho3) ?_
  intro x H4 hx
  rw [if_neg (by decide)] at hx
  subst hx
  simp -dsimp (disch := first | assumption | omega | (simp only [vmLen]; done) | (simp only [vmLen]; omega)) only [↓vmPre, vmPost, vmWrd, vmDat, eq_self, forall_const, Nat.reduceLT, Nat.reduceEqDiff, Nat.reduceSub, Nat.reduceMul, Nat.reduceMod, Nat.reduceDiv, Nat.reducePow, UInt8.reduceToNat, Int.reduceEq, Int.reduceLT, Int.reduceLE, ↓reduceIte, Nat.reduceAdd, Int.reduceToNat, reduceCtorEq, Nat.reduceLeDiff, ↓u_ref1_Stream_stored]
  rw [hR]
  exact ⟨(hF3.trans Jn.refl Frm.set).weak, by simp, _, o, Nat.le_refl _, hw, by simp [s3.lt]⟩
 rw [decide_eq_true h32] at s3 ho3 hv2
 simp only [if_true] at ho3 hv2
 rw [decide_eq_true (by omega : 16 ≤ ((allB inn).drop (8 * A)).length), if_pos rfl] at hv1
 simp only [List.drop_drop] at hR
 rw [← hv1, ← hv2] at hR
 rw [hCl] at h32 hR
 have hbad : (R = .error 10) → VCalls Tryd.prog 35 [.op id 0 [], i64 ((10 : Nat) : Int)] H3 (fun x H' => ResPost id J H inn most win R H') := by
  intro hRe
  refine VCalls.mono (failV (e := 10) hw ho3) ?_
  intro x H4 hx
  rw [if_pos rfl] at hx
  subst hx
  rw [hRe]
  exact ⟨(hF3.trans Jn.refl Frm.set).weak, by simp, _, o, s3.at_ rfl, hw, by simp [s3.lt]⟩
 have hdiv : (8 * A + 16 + 16) / 8 = A + 4 := by omega
 have hlen3 : (inn.length : Int) - ((A + 4 : Nat) : Int) = ((inn.length - (A + 4) : Nat) : Int) := by omega
 by_cases hne : v1 + v2 = 65535
 case neg =>
  simp -dsimp (disch := first | assumption | omega | (simp only [vmLen]; done) | (simp only [vmLen]; omega)) only [↓vmPre, vmPost, vmWrd, vmDat, eq_self, forall_const, Nat.reduceLT, Nat.reduceEqDiff, Nat.reduceSub, Nat.reduceMul, Nat.reduceMod, Nat.reduceDiv, Nat.reducePow, UInt8.reduceToNat, Int.reduceEq, Int.reduceLT, Int.reduceLE, ↓reduceIte, Nat.reduceAdd, Int.reduceToNat, reduceCtorEq, Nat.reduceLeDiff, ↓u_ref1_Stream_stored, ho3, hw, hdiv]
  refine VCalls.mono (hbad (by rw [hR, if_pos (.inr (.inl hne))])) ?_
  intro x H4 hx
  simp -dsimp (disch := first | assumption | omega | (simp only [vmLen]; done) | (simp only [vmLen]; omega)) only [↓vmPre, vmPost, vmWrd, vmDat, eq_self, forall_const, Nat.reduceLT, Nat.reduceEqDiff, Nat.reduceSub, Nat.reduceMul, Nat.reduceMod, Nat.reduceDiv, Nat.reducePow, UInt8.reduceToNat, Int.reduceEq, Int.reduceLT, Int.reduceLE, ↓reduceIte, Nat.reduceAdd, Int.reduceToNat, reduceCtorEq, Nat.reduceLeDiff, ↓u_ref1_Stream_stored]
  exact hx
 by_cases hlong : inn.length - (A + 4) < v1
 case pos =>
  simp -dsimp (disch := first | assumption | omega | (simp only [vmLen]; done) | (simp only [vmLen]; omega)) only [↓vmPre, vmPost, vmWrd, vmDat, eq_self, forall_const, Nat.reduceLT, Nat.reduceEqDiff, Nat.reduceSub, Nat.reduceMul, Nat.reduceMod, Nat.reduceDiv, Nat.reducePow, UInt8.reduceToNat, Int.reduceEq, Int.reduceLT, Int.reduceLE, ↓reduceIte, Nat.reduceAdd, Int.reduceToNat, reduceCtorEq, Nat.reduceLeDiff, ↓u_ref1_Stream_stored, ho3, hw, hdiv]
  refine VCalls.mono (hbad (by rw [hR, if_pos (.inr (.inr (by omega)))])) ?_
  intro x H4 hx
  simp -dsimp (disch := first | assumption | omega | (simp only [vmLen]; done) | (simp only [vmLen]; omega)) only [↓vmPre, vmPost, vmWrd, vmDat, eq_self, forall_const, Nat.reduceLT, Nat.reduceEqDiff, Nat.reduceSub, Nat.reduceMul, Nat.reduceMod, Nat.reduceDiv, Nat.reducePow, UInt8.reduceToNat, Int.reduceEq, Int.reduceLT, Int.reduceLE, ↓reduceIte, Nat.reduceAdd, Int.reduceToNat, reduceCtorEq, Nat.reduceLeDiff, ↓u_ref1_Stream_stored]
  exact hx
 rw [if_neg (by omega), show 8 * A + 32 = 8 * (A + 4) by omega, bytesB_allB (by omega)] at hR
 obtain ⟨xs, hxs⟩ : ∃ xs, xs = (inn.drop (A + 4)).take v1 := ⟨_, rfl⟩
 have hxl : xs.length = v1 := by rw [hxs, List.length_take, List.length_drop]; omega
 rw [← hxs] at hR
 simp -dsimp (disch := first | assumption | omega | (simp only [vmLen]; done) | (simp only [vmLen]; omega)) only [↓vmPre, vmPost, vmWrd, vmDat, eq_self, forall_const, Nat.reduceLT, Nat.reduceEqDiff, Nat.reduceSub, Nat.reduceMul, Nat.reduceMod, Nat.reduceDiv, Nat.reducePow, UInt8.reduceToNat, Int.reduceEq, Int.reduceLT, Int.reduceLE, ↓reduceIte, Nat.reduceAdd, Int.reduceToNat, reduceCtorEq, Nat.reduceLeDiff, ↓u_ref1_Stream_stored, ho3, hw, hdiv]
 refine w_loop (fun q e H' => ∃ k : Nat, q = v1 - k ∧ k ≤ v1 ∧ e = [(0, .op id 0 []), (2, i64 (v1 : Int)), (4, i64 ((A + 4 : Nat) : Int)), (5, i64 (k : Int))] ∧ Frm id J H3 H' ∧
  ((∃ l' J' o', putsP most l xs = putsP most l' (xs.drop k) ∧ StmOk H' id inn (8 * A + 16 + 16) o' l' most win J' ∧ Jn J J' H3) ∨ (putsP most l xs = none ∧ ∃ o', width o' = 1 ∧ H'[id]? = some (stm inn (8 * A + 16 + 16) o' most win 11)))) v1 ?_ ?_
 ·exact ⟨0, rfl, by omega, rfl, Frm.refl, .inl ⟨l, J, o, rfl, s3.ok, Jn.refl⟩⟩
 ·rintro q e H' ⟨k, rfl, hk, rfl, hfr, hc⟩
  by_cases hlt : k < v1
  ·obtain ⟨b, hb⟩ : ∃ b, inn[A + 4 + k]? = some b := ⟨_, List.getElem?_eq_getElem (by omega)⟩
   have hxk : xs.drop k = b :: xs.drop (k + 1) := by
    have hbk : xs[k]? = some b := by rw [hxs, List.getElem?_take, if_pos hlt, List.getElem?_drop]; exact hb
    obtain ⟨h1, h2⟩ := List.getElem?_eq_some_iff.1 hbk
    rw [List.drop_eq_getElem_cons h1, h2]
   rcases hc with ⟨l', J', o', c1, hs, hj⟩ | ⟨c1, o', c2, c3⟩
   ·have ho' := hs.ob
    have hw' := hs.row.width1
    have hlen := hs.len
    rw [hxk, putsP] at c1
    simp -dsimp (disch := first | assumption | omega | (simp only [vmLen]; done) | (simp only [vmLen]; omega)) only [↓vmPre, vmPost, vmWrd, vmDat, eq_self, forall_const, Nat.reduceLT, Nat.reduceEqDiff, Nat.reduceSub, Nat.reduceMul, Nat.reduceMod, Nat.reduceDiv, Nat.reducePow, UInt8.reduceToNat, Int.reduceEq, Int.reduceLT, Int.reduceLE, ↓reduceIte, Nat.reduceAdd, Int.reduceToNat, reduceCtorEq, Nat.reduceLeDiff, ↓u_ref1_Stream_stored, ho', hw', hb]
    refine VCalls.mono (sputV ho' hs.row hs.ne (by omega) (by omega)) ?_
    intro x H4 hx
    simp only [ne_eq, not_true_eq_false, if_false] at hx
    by_cases hmo : most ≤ (l'.length : Int)
    ·rw [if_pos hmo] at hx c1
     subst hx
     simp -dsimp (disch := first | assumption | omega | (simp only [vmLen]; done) | (simp only [vmLen]; omega)) only [↓vmPre, vmPost, vmWrd, vmDat, eq_self, forall_const, Nat.reduceLT, Nat.reduceEqDiff, Nat.reduceSub, Nat.reduceMul, Nat.reduceMod, Nat.reduceDiv, Nat.reducePow, UInt8.reduceToNat, Int.reduceEq, Int.reduceLT, Int.reduceLE, ↓reduceIte, Nat.reduceAdd, Int.reduceToNat, reduceCtorEq, Nat.reduceLeDiff, ↓u_ref1_Stream_stored]
     exact Rnd_keep (v1 - (k + 1)) (by omega) (by have := hfr.1; simp; omega) ⟨k + 1, rfl, by omega, rfl, hfr.trans hj Frm.set, .inr ⟨c1, o', hw', by simp [hs.lt]⟩⟩
    ·rw [if_neg hmo] at hx c1
     obtain ⟨o3, j, g1, g2, g3, g4, g5, g6⟩ := hx
     have hj2 : Jn J' (some j) H' := by
      rcases g4 with e | e
      ·exact .inl e.symm
      ·exact .inr fun j2 h2 => by cases h2; exact e
     simp -dsimp (disch := first | assumption | omega | (simp only [vmLen]; done) | (simp only [vmLen]; omega)) only [↓vmPre, vmPost, vmWrd, vmDat, eq_self, forall_const, Nat.reduceLT, Nat.reduceEqDiff, Nat.reduceSub, Nat.reduceMul, Nat.reduceMod, Nat.reduceDiv, Nat.reducePow, UInt8.reduceToNat, Int.reduceEq, Int.reduceLT, Int.reduceLE, ↓reduceIte, Nat.reduceAdd, Int.reduceToNat, reduceCtorEq, Nat.reduceLeDiff, ↓u_ref1_Stream_stored]
     exact Rnd_keep (v1 - (k + 1)) (by omega) (by have := hfr.1; omega) ⟨k + 1, rfl, by omega, rfl, hfr.trans hj ⟨g6, g5⟩, .inl ⟨l' ++ [b], some j, o3, c1, ⟨g1, g2, by simpa using g3, hs.at_, by simp; omega⟩, Jn.trans hfr hj hj2⟩⟩
   ·simp -dsimp (disch := first | assumption | omega | (simp only [vmLen]; done) | (simp only [vmLen]; omega)) only [↓vmPre, vmPost, vmWrd, vmDat, eq_self, forall_const, Nat.reduceLT, Nat.reduceEqDiff, Nat.reduceSub, Nat.reduceMul, Nat.reduceMod, Nat.reduceDiv, Nat.reducePow, UInt8.reduceToNat, Int.reduceEq, Int.reduceLT, Int.reduceLE, ↓reduceIte, Nat.reduceAdd, Int.reduceToNat, reduceCtorEq, Nat.reduceLeDiff, ↓u_ref1_Stream_stored, c3, c2, hb]
    refine VCalls.mono (sputE c2 (by decide) c3) ?_
    intro x H4 hx
    subst hx
    simp -dsimp (disch := first | assumption | omega | (simp only [vmLen]; done) | (simp only [vmLen]; omega)) only [↓vmPre, vmPost, vmWrd, vmDat, eq_self, forall_const, Nat.reduceLT, Nat.reduceEqDiff, Nat.reduceSub, Nat.reduceMul, Nat.reduceMod, Nat.reduceDiv, Nat.reducePow, UInt8.reduceToNat, Int.reduceEq, Int.reduceLT, Int.reduceLE, ↓reduceIte, Nat.reduceAdd, Int.reduceToNat, reduceCtorEq, Nat.reduceLeDiff, ↓u_ref1_Stream_stored]
    exact Rnd_keep (v1 - (k + 1)) (by omega) (by have := hfr.1; omega) ⟨k + 1, rfl, by omega, rfl, hfr, .inr ⟨c1, o', c2, c3⟩⟩
  ·have hkn : k = v1 := by omega
   subst hkn
   have hdn : xs.drop k = [] := List.drop_eq_nil_of_le (by omega)
   rcases hc with ⟨l', J', o', c1, hs, hj⟩ | ⟨c1, o', c2, c3⟩
   ·have ho' := hs.ob
    have hw' := hs.row.width1
    rw [hdn, putsP] at c1
    rw [c1] at hR
    simp only at hR
    simp -dsimp (disch := first | assumption | omega | (simp only [vmLen]; done) | (simp only [vmLen]; omega)) only [↓vmPre, vmPost, vmWrd, vmDat, eq_self, forall_const, Nat.reduceLT, Nat.reduceEqDiff, Nat.reduceSub, Nat.reduceMul, Nat.reduceMod, Nat.reduceDiv, Nat.reducePow, UInt8.reduceToNat, Int.reduceEq, Int.reduceLT, Int.reduceLE, ↓reduceIte, Nat.reduceAdd, Int.reduceToNat, reduceCtorEq, Nat.reduceLeDiff, ↓u_ref1_Stream_stored, ho', hw']
    rw [hR]
    refine ⟨(hF3.weak.trans Jn.refl hfr).trans (Jn.trans hF3.weak Jn.refl hj) Frm.set, 8 * A + 16 + 16 + 8 * k, o', J', by congr 1; omega, ⟨by simp [hs.lt], hs.row.set hs.ne, hs.ne, by omega, hs.len⟩, ?_⟩
    exact Jn.trans hF3.weak Jn.refl hj
   ·rw [c1] at hR
    simp only at hR
    have hlt4 := (List.getElem?_eq_some_iff.1 c3).1
    simp -dsimp (disch := first | assumption | omega | (simp only [vmLen]; done) | (simp only [vmLen]; omega)) only [↓vmPre, vmPost, vmWrd, vmDat, eq_self, forall_const, Nat.reduceLT, Nat.reduceEqDiff, Nat.reduceSub, Nat.reduceMul, Nat.reduceMod, Nat.reduceDiv, Nat.reducePow, UInt8.reduceToNat, Int.reduceEq, Int.reduceLT, Int.reduceLE, ↓reduceIte, Nat.reduceAdd, Int.reduceToNat, reduceCtorEq, Nat.reduceLeDiff, ↓u_ref1_Stream_stored, c3, c2]
    rw [hR]
    exact ⟨(hF3.weak.trans Jn.refl hfr).trans (J' := none) (.inr fun j h => by cases h) Frm.set, by simp, 8 * A + 16 + 16 + 8 * k, o', by omega, c2, by simp [hlt4]⟩
end Go.Proofs.YtfgljddikcghhaaDoor

