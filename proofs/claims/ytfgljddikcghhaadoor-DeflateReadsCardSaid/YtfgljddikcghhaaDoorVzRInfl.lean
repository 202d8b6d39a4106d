import Derived.Test.YtfgljddikcghhaaDoorVzRBlocks
import Derived.Test.YtfgljddikcghhaaDoorVzAdler
import Derived.Test.YtfgljddikcghhaaDoorBaseC
namespace Go.Proofs.YtfgljddikcghhaaDoor
open Go.RowKit
variable [Globs]
set_option linter.unusedSectionVars false
set_option linter.unusedVariables false
set_option linter.unusedSimpArgs false

section
omit [Globs]
set_option maxRecDepth 100000 in
theorem and_32 : ∀ n, n < 256 → n &&& 32 = n / 32 % 2 * 32 := by decide
end
section
omit [Globs]
theorem fold_lt : ∀ (l : List UInt8) (s : Nat), l.foldl (fun s b => s * 256 + b.toNat) s < (s + 1) * 256 ^ l.length
 | [], s => by simp
 | b :: l, s => by
  have h := fold_lt l (s * 256 + b.toNat)
  have hb := b.toNat_lt
  rw [List.foldl_cons, List.length_cons, Nat.pow_succ]
  refine Nat.lt_of_lt_of_le h ?_
  rw [Nat.mul_comm (256 ^ l.length) 256, ← Nat.mul_assoc]
  exact Nat.mul_le_mul_right _ (by omega)
end
/-- What comes out, as results. -/
def inflR (R : Except Nat (List UInt8 × Nat)) : TV := match R with
 | .ok (l, used) => .tup [slB l, i64 (used : Int), i64 ((0 : Nat) : Int)]
 | .error e => .tup [nilS, i64 ((0 : Nat) : Int), i64 (e : Int)]
def InflX (R : Except Nat (List UInt8 × Nat)) (x : TV) : Prop := x = inflR R ∨ ∃ used, R = .ok ([], used) ∧ x = .tup [nilS, i64 (used : Int), i64 ((0 : Nat) : Int)]
set_option maxHeartbeats 1000000 in
theorem rinflX (b : List UInt8) (most : Int) (hl : b.length ≤ 1000000) (hm : -9223372036854775808 ≤ most ∧ most ≤ 1000000) : VPure Tryd.prog 10 [slB b, i64 most] (InflX (inflP okC rdR adl b most)) := by
 obtain ⟨R, hR⟩ : ∃ R, R = inflP okC rdR adl b most := ⟨_, rfl⟩
 rw [← hR]
 unfold inflP at hR
 refine VCalls.toPureV (go_ref1_Inflate (by simp) ?_)
 have hbad : R = .error 10 → InflX R (.tup [nilS, i64 ((0 : Nat) : Int), i64 ((10 : Nat) : Int)]) := fun h => .inl (by rw [h]; rfl)
 by_cases h2 : b.length < 2
 ·have hRe : R = .error 10 := by
   rw [hR]
   match b, h2 with
   | [], _ => rfl
   | [_], _ => rfl
  simp -dsimp (disch := first | assumption | omega) only [↓vmPre, vmPost, vmWrd, vmDat, eq_self, forall_const, Nat.reduceLT, Nat.reduceEqDiff, Nat.reduceSub, Nat.reduceMul, Nat.reduceMod, Nat.reduceDiv, Nat.reducePow, UInt8.reduceToNat, Int.reduceEq, Int.reduceLT, Int.reduceLE, ↓reduceIte, Nat.reduceAdd, Int.reduceToNat, reduceCtorEq, Nat.reduceLeDiff, ↓u_ref1_Inflate]
  exact hbad hRe
 obtain ⟨x, y, r, rfl⟩ : ∃ x y r, b = x :: y :: r := by
  match b, h2 with
  | x :: y :: r, _ => exact ⟨x, y, r, rfl⟩
  | [], h => simp at h
  | [_], h => simp at h
 simp only at hR
 have hxl := x.toNat_lt
 have hyl := y.toNat_lt
 have hb0 : (x :: y :: r)[0]? = some x := rfl
 have hb1 : (x :: y :: r)[1]? = some y := rfl
 have hbl : (x :: y :: r).length = r.length + 2 := rfl
 have hand := and_32 y.toNat (by omega)
 have hbadH : headOk x.toNat y.toNat = false → R = .error 10 := fun h => by rw [hR, h]; rfl
 by_cases c1 : x.toNat % 16 = 8
 case neg =>
  simp -dsimp (disch := first | assumption | omega) only [↓vmPre, vmPost, vmWrd, vmDat, eq_self, forall_const, Nat.reduceLT, Nat.reduceEqDiff, Nat.reduceSub, Nat.reduceMul, Nat.reduceMod, Nat.reduceDiv, Nat.reducePow, UInt8.reduceToNat, Int.reduceEq, Int.reduceLT, Int.reduceLE, ↓reduceIte, Nat.reduceAdd, Int.reduceToNat, reduceCtorEq, Nat.reduceLeDiff, ↓u_ref1_Inflate, hb0, hb1, b_quo8, b_and8]
  exact hbad (hbadH (by simp [headOk, c1]))
 by_cases c2 : x.toNat / 16 ≤ 7
 case neg =>
  simp -dsimp (disch := first | assumption | omega) only [↓vmPre, vmPost, vmWrd, vmDat, eq_self, forall_const, Nat.reduceLT, Nat.reduceEqDiff, Nat.reduceSub, Nat.reduceMul, Nat.reduceMod, Nat.reduceDiv, Nat.reducePow, UInt8.reduceToNat, Int.reduceEq, Int.reduceLT, Int.reduceLE, ↓reduceIte, Nat.reduceAdd, Int.reduceToNat, reduceCtorEq, Nat.reduceLeDiff, ↓u_ref1_Inflate, hb0, hb1, b_quo8, b_and8]
  exact hbad (hbadH (by simp [headOk, c2]))
 by_cases c3 : (x.toNat * 256 + y.toNat) % 31 = 0
 case neg =>
  simp -dsimp (disch := first | assumption | omega) only [↓vmPre, vmPost, vmWrd, vmDat, eq_self, forall_const, Nat.reduceLT, Nat.reduceEqDiff, Nat.reduceSub, Nat.reduceMul, Nat.reduceMod, Nat.reduceDiv, Nat.reducePow, UInt8.reduceToNat, Int.reduceEq, Int.reduceLT, Int.reduceLE, ↓reduceIte, Nat.reduceAdd, Int.reduceToNat, reduceCtorEq, Nat.reduceLeDiff, ↓u_ref1_Inflate, hb0, hb1, b_quo8, b_and8]
  exact hbad (hbadH (by simp [headOk, c3]))
 by_cases c4 : y.toNat &&& 32 = 0
 case neg =>
  simp -dsimp (disch := first | assumption | omega) only [↓vmPre, vmPost, vmWrd, vmDat, eq_self, forall_const, Nat.reduceLT, Nat.reduceEqDiff, Nat.reduceSub, Nat.reduceMul, Nat.reduceMod, Nat.reduceDiv, Nat.reducePow, UInt8.reduceToNat, Int.reduceEq, Int.reduceLT, Int.reduceLE, ↓reduceIte, Nat.reduceAdd, Int.reduceToNat, reduceCtorEq, Nat.reduceLeDiff, ↓u_ref1_Inflate, hb0, hb1, b_quo8, b_and8]
  exact hbad (hbadH (by
   have : ¬ y.toNat / 32 % 2 = 0 := by omega
   simp [headOk, this]))
 have hhead : headOk x.toNat y.toNat = true := by
  have : y.toNat / 32 % 2 = 0 := by omega
  simp [headOk, c1, c2, c3, this]
 rw [hhead, if_pos rfl] at hR
 simp -dsimp (disch := first | assumption | omega) only [↓vmPre, vmPost, vmWrd, vmDat, eq_self, forall_const, Nat.reduceLT, Nat.reduceEqDiff, Nat.reduceSub, Nat.reduceMul, Nat.reduceMod, Nat.reduceDiv, Nat.reducePow, UInt8.reduceToNat, Int.reduceEq, Int.reduceLT, Int.reduceLE, ↓reduceIte, Nat.reduceAdd, Int.reduceToNat, reduceCtorEq, Nat.reduceLeDiff, ↓u_ref1_Inflate, hb0, hb1, b_quo8, b_and8]
 refine VCalls.mono (rblocksV hl c2 hm) ?_
 rintro v H1 ⟨rfl, hp⟩
 obtain ⟨R1, hR1⟩ : ∃ R1, R1 = blocksP okC rdR most ((2 ^ (x.toNat / 16 + 8) : Nat) : Int) (8 * r.length + 1) (allB r) [] := ⟨_, rfl⟩
 rw [← hR1] at hp hR
 have hB : (allB (x :: y :: r)).drop 16 = allB r := by rw [allB_drop 2]; rfl
 cases R1 with
 | error e =>
  simp only at hR
  obtain ⟨p1, a2, o2, p2, p3, p4⟩ := hp
  simp -dsimp (disch := first | assumption | omega) only [↓vmPre, vmPost, vmWrd, vmDat, eq_self, forall_const, Nat.reduceLT, Nat.reduceEqDiff, Nat.reduceSub, Nat.reduceMul, Nat.reduceMod, Nat.reduceDiv, Nat.reducePow, UInt8.reduceToNat, Int.reduceEq, Int.reduceLT, Int.reduceLE, ↓reduceIte, Nat.reduceAdd, Int.reduceToNat, reduceCtorEq, Nat.reduceLeDiff, ↓u_ref1_Inflate, p4, p3]
  exact .inl (by rw [hR]; rfl)
 | ok BL =>
 obtain ⟨B, l⟩ := BL
 obtain ⟨at_, o, J, rfl, hs⟩ := hp
 simp only at hR
 have ho := hs.ob
 have hw := hs.row.width1
 have hat := hs.at_
 have hlen := hs.len
 generalize hb : x :: y :: r = b at *
 obtain ⟨A, hA⟩ : ∃ A, A = (at_ + 7) / 8 := ⟨_, rfl⟩
 have hAl : A ≤ b.length := by omega
 have hBl : ((allB b).drop at_).length = 8 * b.length - at_ := by rw [List.length_drop, allB_len]
 have hC : ((allB b).drop at_).drop (((allB b).drop at_).length % 8) = (allB b).drop (8 * A) := by rw [List.drop_drop, hBl]; congr 1; omega
 have hCl : ((allB b).drop (8 * A)).length = 8 * (b.length - A) := by rw [List.length_drop, allB_len]; omega
 rw [hC, hCl] at hR
 have hsub : ((b.length : Int) - (A : Int)) = ((b.length - A : Nat) : Int) := by omega
 by_cases h4 : b.length - A < 4
 ·rw [if_pos (by omega)] at hR
  have hlt := hs.lt
  simp -dsimp (disch := first | assumption | omega) only [↓vmPre, vmPost, vmWrd, vmDat, eq_self, forall_const, Nat.reduceLT, Nat.reduceEqDiff, Nat.reduceSub, Nat.reduceMul, Nat.reduceMod, Nat.reduceDiv, Nat.reducePow, UInt8.reduceToNat, Int.reduceEq, Int.reduceLT, Int.reduceLE, ↓reduceIte, Nat.reduceAdd, Int.reduceToNat, reduceCtorEq, Nat.reduceLeDiff, ↓u_ref1_Inflate, ho, hw, ← hA]
  exact hbad hR
 rw [if_neg (by omega)] at hR
 simp -dsimp (disch := first | assumption | omega) only [↓vmPre, vmPost, vmWrd, vmDat, eq_self, forall_const, Nat.reduceLT, Nat.reduceEqDiff, Nat.reduceSub, Nat.reduceMul, Nat.reduceMod, Nat.reduceDiv, Nat.reducePow, UInt8.reduceToNat, Int.reduceEq, Int.reduceLT, Int.reduceLE, ↓reduceIte, Nat.reduceAdd, Int.reduceToNat, reduceCtorEq, Nat.reduceLeDiff, ↓u_ref1_Inflate, ho, hw, ← hA]
 have hnum : numB 4 ((allB b).drop (8 * A)) = ((b.drop A).take 4).foldl (fun s b => s * 256 + b.toNat) 0 := by unfold numB; rw [bytesB_allB (by omega)]
 obtain ⟨sum, hsum⟩ : ∃ sum, sum = fun k => ((b.drop A).take k).foldl (fun s (b : UInt8) => s * 256 + b.toNat) 0 := ⟨_, rfl⟩
 have hsl : ∀ k, k ≤ 4 → sum k < 256 ^ k := fun k hk => by
  have h := fold_lt ((b.drop A).take k) 0
  have e : ((b.drop A).take k).length = k := by rw [List.length_take, List.length_drop]; omega
  rw [e, Nat.zero_add, Nat.one_mul] at h
  rw [hsum]; exact h
 refine w_loop (fun q e H => ∃ k : Nat, q = 4 - k ∧ k ≤ 4 ∧ e = [(0, slB b), (7, .op 0 0 []), (8, i64 (A : Int)), (9, u32 (sum k)), (10, i64 (k : Int))] ∧ H = H1) 4 ?_ ?_
 ·exact ⟨0, rfl, by omega, by rw [hsum]; rfl, rfl⟩
 ·rintro q e H ⟨k, rfl, hk, rfl, rfl⟩
  by_cases hlt : k < 4
  ·obtain ⟨c, hc⟩ : ∃ c, b[A + k]? = some c := ⟨_, List.getElem?_eq_getElem (by omega)⟩
   have hcl := c.toNat_lt
   have hs1 := hsl k hk
   have hs2 : 256 ^ k ≤ 256 ^ 3 := Nat.pow_le_pow_right (by omega) (by omega)
   have hstep : sum (k + 1) = sum k * 256 + c.toNat := by
    rw [hsum]
    simp only
    rw [List.take_add_one, List.getElem?_drop, hc, Option.toList_some, List.foldl_append]
    rfl
   simp -dsimp (disch := first | assumption | omega) only [↓vmPre, vmPost, vmWrd, vmDat, eq_self, forall_const, Nat.reduceLT, Nat.reduceEqDiff, Nat.reduceSub, Nat.reduceMul, Nat.reduceMod, Nat.reduceDiv, Nat.reducePow, UInt8.reduceToNat, Int.reduceEq, Int.reduceLT, Int.reduceLE, ↓reduceIte, Nat.reduceAdd, Int.reduceToNat, reduceCtorEq, Nat.reduceLeDiff, ↓u_ref1_Inflate, hc, w32_u8, b_add32, b_mul32]
   exact Rnd_keep (4 - (k + 1)) (by omega) (by simp) ⟨k + 1, rfl, by omega, by rw [hstep]; rfl, rfl⟩
  ·have hk4 : k = 4 := by omega
   subst hk4
   have hnum' : numB 4 ((allB b).drop (8 * A)) = sum 4 := by rw [hnum, hsum]
   rw [hnum'] at hR
   have hadl := adl_lt l
   have hrow := hs.row
   have hused : b.length - (((allB b).drop at_).length / 8 - 4) = A + 4 := by rw [hBl]; omega
   rw [hused] at hR
   have hE : ((A : Int) + ((4 : Nat) : Int)) = ((A + 4 : Nat) : Int) := by omega
   cases J with
   | none =>
    obtain ⟨rfl, rfl⟩ := hrow
    simp -dsimp (disch := first | assumption | omega) only [↓vmPre, vmPost, vmWrd, vmDat, eq_self, forall_const, Nat.reduceLT, Nat.reduceEqDiff, Nat.reduceSub, Nat.reduceMul, Nat.reduceMod, Nat.reduceDiv, Nat.reducePow, UInt8.reduceToNat, Int.reduceEq, Int.reduceLT, Int.reduceLE, ↓reduceIte, Nat.reduceAdd, Int.reduceToNat, reduceCtorEq, Nat.reduceLeDiff, ↓u_ref1_Inflate, ho]
    refine ((radlerV [] (by simp)).argL (.cons conv_nil .nil)).calls rfl ?_
    rintro _ rfl
    by_cases heq : sum 4 = adl []
    ·rw [if_pos heq] at hR
     simp -dsimp (disch := first | assumption | omega) only [↓vmPre, vmPost, vmWrd, vmDat, eq_self, forall_const, Nat.reduceLT, Nat.reduceEqDiff, Nat.reduceSub, Nat.reduceMul, Nat.reduceMod, Nat.reduceDiv, Nat.reducePow, UInt8.reduceToNat, Int.reduceEq, Int.reduceLT, Int.reduceLE, ↓reduceIte, Nat.reduceAdd, Int.reduceToNat, reduceCtorEq, Nat.reduceLeDiff, ↓u_ref1_Inflate, ho, hE]
     exact .inr ⟨_, hR, rfl⟩
    ·rw [if_neg heq] at hR
     simp -dsimp (disch := first | assumption | omega) only [↓vmPre, vmPost, vmWrd, vmDat, eq_self, forall_const, Nat.reduceLT, Nat.reduceEqDiff, Nat.reduceSub, Nat.reduceMul, Nat.reduceMod, Nat.reduceDiv, Nat.reducePow, UInt8.reduceToNat, Int.reduceEq, Int.reduceLT, Int.reduceLE, ↓reduceIte, Nat.reduceAdd, Int.reduceToNat, reduceCtorEq, Nat.reduceLeDiff, ↓u_ref1_Inflate, ho]
     exact hbad hR
   | some j =>
    obtain ⟨v, rfl, hj⟩ := hrow
    simp -dsimp (disch := first | assumption | omega) only [↓vmPre, vmPost, vmWrd, vmDat, eq_self, forall_const, Nat.reduceLT, Nat.reduceEqDiff, Nat.reduceSub, Nat.reduceMul, Nat.reduceMod, Nat.reduceDiv, Nat.reducePow, UInt8.reduceToNat, Int.reduceEq, Int.reduceLT, Int.reduceLE, ↓reduceIte, Nat.reduceAdd, Int.reduceToNat, reduceCtorEq, Nat.reduceLeDiff, ↓u_ref1_Inflate, ho]
    refine (radlerV l hlen).lends (args' := [slB l]) (by simp -dsimp (disch := first | assumption | omega) only [↓vmPre, vmPost, vmWrd, vmDat, eq_self, forall_const, Nat.reduceLT, Nat.reduceEqDiff, Nat.reduceSub, Nat.reduceMul, Nat.reduceMod, Nat.reduceDiv, Nat.reducePow, UInt8.reduceToNat, Int.reduceEq, Int.reduceLT, Int.reduceLE, ↓reduceIte, Nat.reduceAdd, Int.reduceToNat, reduceCtorEq, Nat.reduceLeDiff, hj]) ?_
    rintro _ rfl
    refine ⟨rfl, ?_⟩
    by_cases heq : sum 4 = adl l
    ·rw [if_pos heq] at hR
     simp -dsimp (disch := first | assumption | omega) only [↓vmPre, vmPost, vmWrd, vmDat, eq_self, forall_const, Nat.reduceLT, Nat.reduceEqDiff, Nat.reduceSub, Nat.reduceMul, Nat.reduceMod, Nat.reduceDiv, Nat.reducePow, UInt8.reduceToNat, Int.reduceEq, Int.reduceLT, Int.reduceLE, ↓reduceIte, Nat.reduceAdd, Int.reduceToNat, reduceCtorEq, Nat.reduceLeDiff, ↓u_ref1_Inflate, ho, hj, hE]
     exact .inl (by rw [hR]; rfl)
    ·rw [if_neg heq] at hR
     simp -dsimp (disch := first | assumption | omega) only [↓vmPre, vmPost, vmWrd, vmDat, eq_self, forall_const, Nat.reduceLT, Nat.reduceEqDiff, Nat.reduceSub, Nat.reduceMul, Nat.reduceMod, Nat.reduceDiv, Nat.reducePow, UInt8.reduceToNat, Int.reduceEq, Int.reduceLT, Int.reduceLE, ↓reduceIte, Nat.reduceAdd, Int.reduceToNat, reduceCtorEq, Nat.reduceLeDiff, ↓u_ref1_Inflate, ho, hj]
     exact hbad hR
/-- The document's Inflate. -/
theorem rinflV (b : List UInt8) (most : Int) (hl : b.length ≤ 1000000) (hm : -9223372036854775808 ≤ most ∧ most ≤ 1000000) : VPure Tryd.prog 10 [slB b, i64 most] (fun x => ∃ e : Nat, ∃ l : List UInt8, ∃ used : Nat, x = .tup [slB l, i64 (used : Int), i64 (e : Int)] ∧ (match inflP okC rdR adl b most with
  | .ok (l', used') => e = 0 ∧ l = l' ∧ used = used'
  | .error e' => e = e' ∧ l = [] ∧ used = 0)) := by
 refine (rinflX b most hl hm).conv ?_
 intro x hx
 generalize inflP okC rdR adl b most = R at *
 rcases hx with rfl | ⟨used, rfl, rfl⟩
 ·cases R with
  | ok p =>
   obtain ⟨l, used⟩ := p
   exact ⟨_, ⟨0, l, used, rfl, rfl, rfl, rfl⟩, fun _ _ _ h => h⟩
  | error e =>
   exact ⟨_, ⟨e, [], 0, rfl, rfl, rfl, rfl⟩, (ConvL.cons conv_nil ConvL.refl).tup⟩
 ·exact ⟨_, ⟨0, [], used, rfl, rfl, rfl, rfl⟩, (ConvL.cons conv_nil ConvL.refl).tup⟩
end Go.Proofs.YtfgljddikcghhaaDoor

