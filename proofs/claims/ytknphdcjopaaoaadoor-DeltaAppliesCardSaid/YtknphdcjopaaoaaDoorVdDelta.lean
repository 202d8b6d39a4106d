/- delta.Sizes and delta.Apply, as the machine of values has them. -/
import Derived.Test.YtknphdcjopaaoaaDoorVdPart
import Derived.Test.YtknphdcjopaaoaaDoorVdTell
namespace Go.Proofs.YtknphdcjopaaoaaDoor
open Go.RowKit
set_option linter.unusedVariables false
set_option linter.unusedSimpArgs false

theorem szG_bad : ∀ (f i n : Nat) (r : List UInt8), (szG f i n r true).2.2 = true
  | 0, _, _, _ => rfl
  | f + 1, i, n, r => by
    rw [szG]
    have hb : (rdB r true).2.2 = true := by cases r <;> rfl
    rw [hb]
    split
    · rfl
    · exact szG_bad f _ _ _

abbrev nilS : TV := .val (.slice none 0 0)
abbrev nilE : TV := .val .nilIface
/-- Sizes: both, or an error. -/
def SizesR (d : List UInt8) (x : TV) : Prop := x = match szs d with
  | none => .tup [i64 (0 : Nat), i64 (0 : Nat), eno (30 : Nat)]
  | some (n, m, _) => .tup [i64 n, i64 m, nilE]

theorem dSizes (d : List UInt8) (hl : d.length ≤ 1000000) : VFresh Tryd.prog 19 [slB d] (SizesR d) := by
  refine VCalls.toFreshV (go_delta_Sizes (by simp) ?_)
  simp -dsimp (disch := first | assumption | omega) only [↓vmPre, vmPost, vmWrd, vmDat, eq_self, forall_const, Nat.reduceLT, Nat.reduceEqDiff, Nat.reduceSub, Nat.reduceMul, Nat.reduceMod, Nat.reduceDiv, Nat.reducePow, UInt8.reduceToNat, Int.reduceEq, Int.reduceLT, Int.reduceLE, ↓reduceIte, Nat.reduceEqDiff, Nat.reduceAdd, Int.reduceToNat, reduceCtorEq, Nat.reduceLeDiff, ↓u_delta_Sizes]
  refine sizeC hl rfl ?_
  have h1 := szG_len 5 0 0 d false
  rcases hg : szG 5 0 0 d false with ⟨n, r, bad⟩
  rw [hg] at h1
  simp -dsimp (disch := first | assumption | omega) only [↓vmPre, vmPost, vmWrd, vmDat, eq_self, forall_const, Nat.reduceLT, Nat.reduceEqDiff, Nat.reduceSub, Nat.reduceMul, Nat.reduceMod, Nat.reduceDiv, Nat.reducePow, UInt8.reduceToNat, Int.reduceEq, Int.reduceLT, Int.reduceLE, ↓reduceIte, Nat.reduceEqDiff, Nat.reduceAdd, Int.reduceToNat, reduceCtorEq, Nat.reduceLeDiff, ↓u_delta_Sizes]
  refine sizeC (by simpa using Nat.le_trans h1 hl) rfl ?_
  cases bad with
  | true =>
    have hb := szG_bad 5 0 0 r
    simp -dsimp (disch := first | assumption | omega) only [↓vmPre, vmPost, vmWrd, vmDat, eq_self, forall_const, Nat.reduceLT, Nat.reduceEqDiff, Nat.reduceSub, Nat.reduceMul, Nat.reduceMod, Nat.reduceDiv, Nat.reducePow, UInt8.reduceToNat, Int.reduceEq, Int.reduceLT, Int.reduceLE, ↓reduceIte, Nat.reduceEqDiff, Nat.reduceAdd, Int.reduceToNat, reduceCtorEq, Nat.reduceLeDiff, ↓u_delta_Sizes, hb]
    simp [SizesR, szs, hg]
  | false =>
    rcases hg2 : szG 5 0 0 r false with ⟨m, r2, bad2⟩
    cases bad2 <;> simp -dsimp (disch := first | assumption | omega) only [↓vmPre, vmPost, vmWrd, vmDat, eq_self, forall_const, Nat.reduceLT, Nat.reduceEqDiff, Nat.reduceSub, Nat.reduceMul, Nat.reduceMod, Nat.reduceDiv, Nat.reducePow, UInt8.reduceToNat, Int.reduceEq, Int.reduceLT, Int.reduceLE, ↓reduceIte, Nat.reduceEqDiff, Nat.reduceAdd, Int.reduceToNat, reduceCtorEq, Nat.reduceLeDiff, ↓u_delta_Sizes] <;> simp [SizesR, szs, hg, hg2]

/-- A step of a delta: what is made, what of the delta follows; none: it is in error. -/
def dStep (base : List UInt8) (m : Nat) (out : List UInt8) (b : UInt8) (r : List UInt8) : Option (List UInt8 × List UInt8) :=
  if b.toNat = 0 then none else
  if b.toNat < 128 then (if b.toNat ≤ r.length ∧ out.length + b.toNat ≤ m then some (out ++ r.take b.toNat, r.drop b.toNat) else none) else
  match nbG 4 (b.toNat % 16) 0 0 r false with
  | (at_, r1, bad1) => match nbG 4 (b.toNat / 16 % 8) 0 0 r1 bad1 with
    | (n, r2, bad2) => if bad2 = false ∧ at_ + (if n = 0 then 65536 else n) ≤ base.length ∧ out.length + (if n = 0 then 65536 else n) ≤ m then
        some (out ++ (base.drop at_).take (if n = 0 then 65536 else n), r2) else none
def dRun (base : List UInt8) (m : Nat) : Nat → List UInt8 → List UInt8 → Option (List UInt8)
  | _, out, [] => if out.length = m then some out else none
  | 0, _, _ :: _ => none
  | f + 1, out, b :: r => match dStep base m out b r with
    | none => none
    | some (out, r) => dRun base m f out r
def dApply (base d : List UInt8) : Option (List UInt8) := match szs d with
  | none => none
  | some (n, m, r) => if n = base.length ∧ m ≤ 100000 then dRun base m r.length [] r else none
theorem rdB_len' {r : List UInt8} {bad : Bool} : (rdB r bad).2.1.length ≤ r.length := by cases r <;> simp [rdB]
theorem nbG_len : ∀ (f w i n : Nat) (r : List UInt8) (bad : Bool), (nbG f w i n r bad).2.1.length ≤ r.length
  | 0, _, _, _, _, _ => Nat.le_refl _
  | f + 1, w, i, n, r, bad => by
    rw [nbG]; split
    · exact Nat.le_trans (nbG_len f _ _ _ _ _) rdB_len'
    · exact nbG_len f _ _ _ _ _
theorem nbG_lt : ∀ (f w i n : Nat) (r : List UInt8) (bad : Bool), n < 2 ^ (8 * i) → (nbG f w i n r bad).1 < 2 ^ (8 * (i + f))
  | 0, _, _, _, _, _, h => h
  | f + 1, w, i, n, r, bad, h => by
    have hp : 2 ^ (8 * (i + 1)) = 256 * 2 ^ (8 * i) := by rw [show 8 * (i + 1) = 8 + 8 * i from by omega, Nat.pow_add]
    have hle : 2 ^ (8 * i) ≤ 2 ^ (8 * (i + 1)) := Nat.pow_le_pow_right (by omega) (by omega)
    rw [nbG, show i + (f + 1) = i + 1 + f from by omega]
    split
    · refine nbG_lt f _ _ _ _ _ ?_
      have hb := rdB_lt r bad
      have hm : (rdB r bad).1 * 2 ^ (8 * i) ≤ 255 * 2 ^ (8 * i) := Nat.mul_le_mul_right _ (by omega)
      exact Nat.or_lt_two_pow (by omega) (by omega)
    · exact nbG_lt f _ _ _ _ _ (by omega)
theorem dStep_len {base : List UInt8} {m : Nat} {out : List UInt8} {b : UInt8} {r o2 r2 : List UInt8} (h : dStep base m out b r = some (o2, r2)) : r2.length ≤ r.length ∧ o2.length ≤ m := by
  unfold dStep at h
  split at h
  · cases h
  · split at h
    · split at h
      · simp only [Option.some.injEq, Prod.mk.injEq] at h; obtain ⟨rfl, rfl⟩ := h; simp; omega
      · cases h
    · have k1 := nbG_len 4 (b.toNat % 16) 0 0 r false
      rcases g1 : nbG 4 (b.toNat % 16) 0 0 r false with ⟨a, r1, b1⟩
      have k2 := nbG_len 4 (b.toNat / 16 % 8) 0 0 r1 b1
      rcases g2 : nbG 4 (b.toNat / 16 % 8) 0 0 r1 b1 with ⟨n, r2', b2⟩
      rw [g1] at h k1; rw [g2] at k2
      have h' : (if b2 = false ∧ a + (if n = 0 then 65536 else n) ≤ base.length ∧ out.length + (if n = 0 then 65536 else n) ≤ m then some (out ++ (base.drop a).take (if n = 0 then 65536 else n), r2') else none) = some (o2, r2) := by
        have e : (match nbG 4 (b.toNat / 16 % 8) 0 0 r1 b1 with
          | (n, r2, bad2) => if bad2 = false ∧ a + (if n = 0 then 65536 else n) ≤ base.length ∧ out.length + (if n = 0 then 65536 else n) ≤ m then some (out ++ (base.drop a).take (if n = 0 then 65536 else n), r2) else none) = some (o2, r2) := h
        rw [g2] at e; exact e
      by_cases hc : b2 = false ∧ a + (if n = 0 then 65536 else n) ≤ base.length ∧ out.length + (if n = 0 then 65536 else n) ≤ m
      · rw [if_pos hc] at h'
        simp only [Option.some.injEq, Prod.mk.injEq] at h'; obtain ⟨rfl, rfl⟩ := h'
        simp only at k1 k2
        exact ⟨by omega, by simp; omega⟩
      · rw [if_neg hc] at h'; cases h'
theorem dRun_fuel {base : List UInt8} {m : Nat} : ∀ (f g : Nat) (out r : List UInt8), r.length ≤ f → r.length ≤ g → dRun base m f out r = dRun base m g out r
  | f, g, out, [], _, _ => by cases f <;> cases g <;> simp [dRun]
  | 0, _, _, _ :: _, h, _ => by simp at h
  | _, 0, _, _ :: _, _, h => by simp at h
  | f + 1, g + 1, out, b :: r, h1, h2 => by
    rw [dRun, dRun]
    cases hs : dStep base m out b r with
    | none => rfl
    | some x =>
      obtain ⟨o2, r2⟩ := x
      have := (dStep_len hs).1
      simp at h1 h2
      exact dRun_fuel f g o2 r2 (by omega) (by omega)
/-- Apply: what is made, or an error. -/
def ApplyR (base d : List UInt8) (x : TV) : Prop := x = match dApply base d with
  | none => .tup [nilS, eno (30 : Nat)]
  | some out => .tup [slB out, nilE]
set_option maxRecDepth 100000 in
theorem b128' : ∀ b : Fin 256, (b.val &&& 128 = if b.val < 128 then 0 else 128) := by decide
theorem b128 {b : Nat} (h : b < 256) : b &&& 128 = if b < 128 then 0 else 128 := b128' ⟨b, h⟩
theorem b15 : ∀ b : Nat, b &&& 15 = b % 16 := fun b => by have := Nat.and_two_pow_sub_one_eq_mod b 4; simpa using this
theorem b7 : ∀ b : Nat, b &&& 7 = b % 8 := fun b => by have := Nat.and_two_pow_sub_one_eq_mod b 3; simpa using this

theorem delApply (base d : List UInt8) (hl : d.length ≤ 1000000) (hb : base.length ≤ 1000000) : VFresh Tryd.prog 18 [slB base, slB d] (ApplyR base d) := by
  refine VCalls.toFreshV (go_delta_Apply (by simp) ?_)
  simp -dsimp (disch := first | assumption | omega) only [↓vmPre, vmPost, vmWrd, vmDat, eq_self, forall_const, Nat.reduceLT, Nat.reduceEqDiff, Nat.reduceSub, Nat.reduceMul, Nat.reduceMod, Nat.reduceDiv, Nat.reducePow, UInt8.reduceToNat, Int.reduceEq, Int.reduceLT, Int.reduceLE, ↓reduceIte, Nat.reduceEqDiff, Nat.reduceAdd, Int.reduceToNat, reduceCtorEq, Nat.reduceLeDiff, ↓u_delta_Apply]
  refine sizeC hl rfl ?_
  have h1 := szG_len 5 0 0 d false
  rcases hg : szG 5 0 0 d false with ⟨n, r, bad⟩
  rw [hg] at h1
  simp -dsimp (disch := first | assumption | omega) only [↓vmPre, vmPost, vmWrd, vmDat, eq_self, forall_const, Nat.reduceLT, Nat.reduceEqDiff, Nat.reduceSub, Nat.reduceMul, Nat.reduceMod, Nat.reduceDiv, Nat.reducePow, UInt8.reduceToNat, Int.reduceEq, Int.reduceLT, Int.reduceLE, ↓reduceIte, Nat.reduceEqDiff, Nat.reduceAdd, Int.reduceToNat, reduceCtorEq, Nat.reduceLeDiff, ↓u_delta_Apply]
  refine sizeC (by simpa using Nat.le_trans h1 hl) rfl ?_
  cases bad with
  | true =>
    have hb := szG_bad 5 0 0 r
    simp -dsimp (disch := first | assumption | omega) only [↓vmPre, vmPost, vmWrd, vmDat, eq_self, forall_const, Nat.reduceLT, Nat.reduceEqDiff, Nat.reduceSub, Nat.reduceMul, Nat.reduceMod, Nat.reduceDiv, Nat.reducePow, UInt8.reduceToNat, Int.reduceEq, Int.reduceLT, Int.reduceLE, ↓reduceIte, Nat.reduceEqDiff, Nat.reduceAdd, Int.reduceToNat, reduceCtorEq, Nat.reduceLeDiff, ↓u_delta_Apply, hb]
    simp [ApplyR, dApply, szs, hg]
  | false =>
    have h2 := szG_len 5 0 0 r false
    rcases hg2 : szG 5 0 0 r false with ⟨m, r2, bad2⟩
    rw [hg2] at h2
    cases bad2 with
    | true =>
      simp -dsimp (disch := first | assumption | omega) only [↓vmPre, vmPost, vmWrd, vmDat, eq_self, forall_const, Nat.reduceLT, Nat.reduceEqDiff, Nat.reduceSub, Nat.reduceMul, Nat.reduceMod, Nat.reduceDiv, Nat.reducePow, UInt8.reduceToNat, Int.reduceEq, Int.reduceLT, Int.reduceLE, ↓reduceIte, Nat.reduceEqDiff, Nat.reduceAdd, Int.reduceToNat, reduceCtorEq, Nat.reduceLeDiff, ↓u_delta_Apply]
      simp [ApplyR, dApply, szs, hg, hg2]
    | false =>
      simp only at h1 h2
      simp -dsimp (disch := first | assumption | omega) only [↓vmPre, vmPost, vmWrd, vmDat, eq_self, forall_const, Nat.reduceLT, Nat.reduceEqDiff, Nat.reduceSub, Nat.reduceMul, Nat.reduceMod, Nat.reduceDiv, Nat.reducePow, UInt8.reduceToNat, Int.reduceEq, Int.reduceLT, Int.reduceLE, ↓reduceIte, Nat.reduceEqDiff, Nat.reduceAdd, Int.reduceToNat, reduceCtorEq, Nat.reduceLeDiff, ↓u_delta_Apply]
      refine vif_cases (fun hn => ?_) (fun hn => ?_)
      case refine_2 =>
        simp -dsimp (disch := first | assumption | omega) only [↓vmPre, vmPost, vmWrd, vmDat, eq_self, forall_const, Nat.reduceLT, Nat.reduceEqDiff, Nat.reduceSub, Nat.reduceMul, Nat.reduceMod, Nat.reduceDiv, Nat.reducePow, UInt8.reduceToNat, Int.reduceEq, Int.reduceLT, Int.reduceLE, ↓reduceIte, Nat.reduceEqDiff, Nat.reduceAdd, Int.reduceToNat, reduceCtorEq, Nat.reduceLeDiff, ↓u_delta_Apply]
        simp [ApplyR, dApply, szs, hg, hg2, hn]
      simp -dsimp (disch := first | assumption | omega) only [↓vmPre, vmPost, vmWrd, vmDat, eq_self, forall_const, Nat.reduceLT, Nat.reduceEqDiff, Nat.reduceSub, Nat.reduceMul, Nat.reduceMod, Nat.reduceDiv, Nat.reducePow, UInt8.reduceToNat, Int.reduceEq, Int.reduceLT, Int.reduceLE, ↓reduceIte, Nat.reduceEqDiff, Nat.reduceAdd, Int.reduceToNat, reduceCtorEq, Nat.reduceLeDiff, ↓u_delta_Apply]
      refine vif_cases (fun hm => ?_) (fun hm => ?_)
      case refine_1 =>
        simp -dsimp (disch := first | assumption | omega) only [↓vmPre, vmPost, vmWrd, vmDat, eq_self, forall_const, Nat.reduceLT, Nat.reduceEqDiff, Nat.reduceSub, Nat.reduceMul, Nat.reduceMod, Nat.reduceDiv, Nat.reducePow, UInt8.reduceToNat, Int.reduceEq, Int.reduceLT, Int.reduceLE, ↓reduceIte, Nat.reduceEqDiff, Nat.reduceAdd, Int.reduceToNat, reduceCtorEq, Nat.reduceLeDiff, ↓u_delta_Apply]
        simp [ApplyR, dApply, szs, hg, hg2, hn, show ¬ m ≤ 100000 from by omega]
      simp -dsimp (disch := first | assumption | omega) only [↓vmPre, vmPost, vmWrd, vmDat, eq_self, forall_const, Nat.reduceLT, Nat.reduceEqDiff, Nat.reduceSub, Nat.reduceMul, Nat.reduceMod, Nat.reduceDiv, Nat.reducePow, UInt8.reduceToNat, Int.reduceEq, Int.reduceLT, Int.reduceLE, ↓reduceIte, Nat.reduceEqDiff, Nat.reduceAdd, Int.reduceToNat, reduceCtorEq, Nat.reduceLeDiff, ↓u_delta_Apply]
      have hfin : dApply base d = dRun base m r2.length [] r2 := by simp [dApply, szs, hg, hg2, hn]; omega
      refine w_loop (fun k e H => ∃ (ver N cp : Nat) (cs : List TV) (out r' : List UInt8), k = r'.length ∧ r'.length ≤ 1000000 ∧ out.length ≤ m ∧ cs.take out.length = out.map by8 ∧ out.length ≤ cs.length ∧ dRun base m r'.length out r' = dApply base d ∧
        e = [(0, slB base), (6, .op 0 0 []), (8, i64 m), (9, .os 1 1 ver [] 0 out.length cp)] ∧ H = [.obj 0 (rdr r' false), .obj ver (.arr N 1 cs)]) r2.length ?_ ?_
      · exact ⟨0, m, m, _, [], r2, rfl, by omega, by simp, by simp, by simp, hfin.symm, rfl, rfl⟩
      · rintro k e H ⟨ver, N, cp, cs, out, r', rfl, hr', hout, hcs, hcl, hrun, rfl, rfl⟩
        cases r' with
        | nil =>
          have hd : dApply base d = if out.length = m then some out else none := by rw [← hrun]; rfl
          simp -dsimp (disch := first | assumption | omega) only [↓vmPre, vmPost, vmWrd, vmDat, eq_self, forall_const, Nat.reduceLT, Nat.reduceEqDiff, Nat.reduceSub, Nat.reduceMul, Nat.reduceMod, Nat.reduceDiv, Nat.reducePow, UInt8.reduceToNat, Int.reduceEq, Int.reduceLT, Int.reduceLE, ↓reduceIte, Nat.reduceEqDiff, Nat.reduceAdd, Int.reduceToNat, reduceCtorEq, Nat.reduceLeDiff, ↓u_delta_Apply]
          refine vif_cases (fun hm => ?_) (fun hm => ?_)
          · simp -dsimp (disch := first | assumption | omega) only [↓vmPre, vmPost, vmWrd, vmDat, eq_self, forall_const, Nat.reduceLT, Nat.reduceEqDiff, Nat.reduceSub, Nat.reduceMul, Nat.reduceMod, Nat.reduceDiv, Nat.reducePow, UInt8.reduceToNat, Int.reduceEq, Int.reduceLT, Int.reduceLE, ↓reduceIte, Nat.reduceEqDiff, Nat.reduceAdd, Int.reduceToNat, reduceCtorEq, Nat.reduceLeDiff, ↓u_delta_Apply, hcs]
            simp [ApplyR, hd, hm]
          · simp -dsimp (disch := first | assumption | omega) only [↓vmPre, vmPost, vmWrd, vmDat, eq_self, forall_const, Nat.reduceLT, Nat.reduceEqDiff, Nat.reduceSub, Nat.reduceMul, Nat.reduceMod, Nat.reduceDiv, Nat.reducePow, UInt8.reduceToNat, Int.reduceEq, Int.reduceLT, Int.reduceLE, ↓reduceIte, Nat.reduceEqDiff, Nat.reduceAdd, Int.reduceToNat, reduceCtorEq, Nat.reduceLeDiff, ↓u_delta_Apply]
            simp [ApplyR, hd, hm]
        | cons b r' =>
          have hb := b.toNat_lt
          simp only [List.length_cons] at hr'
          rw [List.length_cons, dRun] at hrun
          have hd : dStep base m out b r' = none → dApply base d = none := fun h => by rw [← hrun, h]
          simp -dsimp (disch := first | assumption | omega) only [↓vmPre, vmPost, vmWrd, vmDat, eq_self, forall_const, Nat.reduceLT, Nat.reduceEqDiff, Nat.reduceSub, Nat.reduceMul, Nat.reduceMod, Nat.reduceDiv, Nat.reducePow, UInt8.reduceToNat, Int.reduceEq, Int.reduceLT, Int.reduceLE, ↓reduceIte, Nat.reduceEqDiff, Nat.reduceAdd, Int.reduceToNat, reduceCtorEq, Nat.reduceLeDiff, ↓u_delta_Apply]
          refine byteC (by simp; omega) rfl ?_
          have b1 := b128 (b := b.toNat) (by omega)
          simp only [rdB]
          simp -dsimp (disch := first | assumption | omega) only [↓vmPre, vmPost, vmWrd, vmDat, eq_self, forall_const, Nat.reduceLT, Nat.reduceEqDiff, Nat.reduceSub, Nat.reduceMul, Nat.reduceMod, Nat.reduceDiv, Nat.reducePow, UInt8.reduceToNat, Int.reduceEq, Int.reduceLT, Int.reduceLE, ↓reduceIte, Nat.reduceEqDiff, Nat.reduceAdd, Int.reduceToNat, reduceCtorEq, Nat.reduceLeDiff, ↓u_delta_Apply]
          refine vif_cases (fun h0 => ?_) (fun h0 => ?_)
          · simp -dsimp (disch := first | assumption | omega) only [↓vmPre, vmPost, vmWrd, vmDat, eq_self, forall_const, Nat.reduceLT, Nat.reduceEqDiff, Nat.reduceSub, Nat.reduceMul, Nat.reduceMod, Nat.reduceDiv, Nat.reducePow, UInt8.reduceToNat, Int.reduceEq, Int.reduceLT, Int.reduceLE, ↓reduceIte, Nat.reduceEqDiff, Nat.reduceAdd, Int.reduceToNat, reduceCtorEq, Nat.reduceLeDiff, ↓u_delta_Apply]
            simp [ApplyR, hd (by simp [dStep, h0])]
          by_cases h128 : b.toNat < 128
          · rw [if_pos h128] at b1
            simp -dsimp (disch := first | assumption | omega) only [↓vmPre, vmPost, vmWrd, vmDat, eq_self, forall_const, Nat.reduceLT, Nat.reduceEqDiff, Nat.reduceSub, Nat.reduceMul, Nat.reduceMod, Nat.reduceDiv, Nat.reducePow, UInt8.reduceToNat, Int.reduceEq, Int.reduceLT, Int.reduceLE, ↓reduceIte, Nat.reduceEqDiff, Nat.reduceAdd, Int.reduceToNat, reduceCtorEq, Nat.reduceLeDiff, ↓u_delta_Apply, b1]
            refine vif_cases (fun hr => ?_) (fun hr => ?_)
            · simp -dsimp (disch := first | assumption | omega) only [↓vmPre, vmPost, vmWrd, vmDat, eq_self, forall_const, Nat.reduceLT, Nat.reduceEqDiff, Nat.reduceSub, Nat.reduceMul, Nat.reduceMod, Nat.reduceDiv, Nat.reducePow, UInt8.reduceToNat, Int.reduceEq, Int.reduceLT, Int.reduceLE, ↓reduceIte, Nat.reduceEqDiff, Nat.reduceAdd, Int.reduceToNat, reduceCtorEq, Nat.reduceLeDiff, ↓u_delta_Apply, b1]
              simp [ApplyR, hd (by rw [dStep, if_neg h0, if_pos h128, if_neg (by omega)])]
            · simp -dsimp (disch := first | assumption | omega) only [↓vmPre, vmPost, vmWrd, vmDat, eq_self, forall_const, Nat.reduceLT, Nat.reduceEqDiff, Nat.reduceSub, Nat.reduceMul, Nat.reduceMod, Nat.reduceDiv, Nat.reducePow, UInt8.reduceToNat, Int.reduceEq, Int.reduceLT, Int.reduceLE, ↓reduceIte, Nat.reduceEqDiff, Nat.reduceAdd, Int.reduceToNat, reduceCtorEq, Nat.reduceLeDiff, ↓u_delta_Apply, b1]
              refine vif_cases (fun hm2 => ?_) (fun hm2 => ?_)
              · simp -dsimp (disch := first | assumption | omega) only [↓vmPre, vmPost, vmWrd, vmDat, eq_self, forall_const, Nat.reduceLT, Nat.reduceEqDiff, Nat.reduceSub, Nat.reduceMul, Nat.reduceMod, Nat.reduceDiv, Nat.reducePow, UInt8.reduceToNat, Int.reduceEq, Int.reduceLT, Int.reduceLE, ↓reduceIte, Nat.reduceEqDiff, Nat.reduceAdd, Int.reduceToNat, reduceCtorEq, Nat.reduceLeDiff, ↓u_delta_Apply, b1]
                simp [ApplyR, hd (by rw [dStep, if_neg h0, if_pos h128, if_neg (by omega)])]
              · have hs : dStep base m out b r' = some (out ++ r'.take b.toNat, r'.drop b.toNat) := by rw [dStep, if_neg h0, if_pos h128, if_pos (by omega)]
                rw [hs] at hrun
                simp -dsimp (disch := first | assumption | omega) only [↓vmPre, vmPost, vmWrd, vmDat, eq_self, forall_const, Nat.reduceLT, Nat.reduceEqDiff, Nat.reduceSub, Nat.reduceMul, Nat.reduceMod, Nat.reduceDiv, Nat.reducePow, UInt8.reduceToNat, Int.reduceEq, Int.reduceLT, Int.reduceLE, ↓reduceIte, Nat.reduceEqDiff, Nat.reduceAdd, Int.reduceToNat, reduceCtorEq, Nat.reduceLeDiff, ↓u_delta_Apply, b1]
                have hlen : (out ++ r'.take b.toNat).length = out.length + b.toNat := by simp; omega
                refine Rnd_keep (r'.length - b.toNat) (by omega) (by simp) ⟨ver + 1, out.length + b.toNat, out.length + b.toNat, (out ++ r'.take b.toNat).map by8, out ++ r'.take b.toNat, r'.drop b.toNat, by simp, by simp; omega, by omega, by rw [List.take_of_length_le (by simp)], by simp, ?_, ?_, ?_⟩
                · rw [← hrun]; exact dRun_fuel _ _ _ _ (by simp) (by simp)
                · rw [hlen]; rfl
                · rw [List.map_append, ← hcs]
          · rw [if_neg h128] at b1
            have e15 := b15 b.toNat
            simp -dsimp (disch := first | assumption | omega) only [↓vmPre, vmPost, vmWrd, vmDat, eq_self, forall_const, Nat.reduceLT, Nat.reduceEqDiff, Nat.reduceSub, Nat.reduceMul, Nat.reduceMod, Nat.reduceDiv, Nat.reducePow, UInt8.reduceToNat, Int.reduceEq, Int.reduceLT, Int.reduceLE, ↓reduceIte, Nat.reduceEqDiff, Nat.reduceAdd, Int.reduceToNat, reduceCtorEq, Nat.reduceLeDiff, ↓u_delta_Apply, b1, e15]
            refine numC (by omega) (by omega) rfl ?_
            have k1 := nbG_len 4 (b.toNat % 16) 0 0 r' false
            have k3 := nbG_lt 4 (b.toNat % 16) 0 0 r' false (by omega)
            rcases g1 : nbG 4 (b.toNat % 16) 0 0 r' false with ⟨a, r1, bad1⟩
            rw [g1] at k1 k3
            simp only at k1 k3
            have e7 := b7 (b.toNat / 16)
            simp -dsimp (disch := first | assumption | omega) only [↓vmPre, vmPost, vmWrd, vmDat, eq_self, forall_const, Nat.reduceLT, Nat.reduceEqDiff, Nat.reduceSub, Nat.reduceMul, Nat.reduceMod, Nat.reduceDiv, Nat.reducePow, UInt8.reduceToNat, Int.reduceEq, Int.reduceLT, Int.reduceLE, ↓reduceIte, Nat.reduceEqDiff, Nat.reduceAdd, Int.reduceToNat, reduceCtorEq, Nat.reduceLeDiff, ↓u_delta_Apply, e7]
            refine numC (by omega) (by omega) rfl ?_
            have k2 := nbG_len 4 (b.toNat / 16 % 8) 0 0 r1 bad1
            have k4 := nbG_lt 4 (b.toNat / 16 % 8) 0 0 r1 bad1 (by omega)
            have hs : dStep base m out b r' = match nbG 4 (b.toNat / 16 % 8) 0 0 r1 bad1 with
              | (n, r2, bad2) => if bad2 = false ∧ a + (if n = 0 then 65536 else n) ≤ base.length ∧ out.length + (if n = 0 then 65536 else n) ≤ m then
                some (out ++ (base.drop a).take (if n = 0 then 65536 else n), r2) else none := by rw [dStep, if_neg h0, if_neg h128, g1]
            rcases g2 : nbG 4 (b.toNat / 16 % 8) 0 0 r1 bad1 with ⟨n2, r2', bad2⟩
            rw [g2] at k2 k4 hs
            simp only at k2 k4 hs
            simp -dsimp (disch := first | assumption | omega) only [↓vmPre, vmPost, vmWrd, vmDat, eq_self, forall_const, Nat.reduceLT, Nat.reduceEqDiff, Nat.reduceSub, Nat.reduceMul, Nat.reduceMod, Nat.reduceDiv, Nat.reducePow, UInt8.reduceToNat, Int.reduceEq, Int.reduceLT, Int.reduceLE, ↓reduceIte, Nat.reduceEqDiff, Nat.reduceAdd, Int.reduceToNat, reduceCtorEq, Nat.reduceLeDiff, ↓u_delta_Apply]
            obtain ⟨sz, hsz⟩ : ∃ sz, sz = if n2 = 0 then 65536 else n2 := ⟨_, rfl⟩
            rw [← hsz] at hs
            refine vif_cases (fun hz => ?_) (fun hz => ?_)
            · rw [if_pos hz] at hsz
              simp -dsimp (disch := first | assumption | omega) only [↓vmPre, vmPost, vmWrd, vmDat, eq_self, forall_const, Nat.reduceLT, Nat.reduceEqDiff, Nat.reduceSub, Nat.reduceMul, Nat.reduceMod, Nat.reduceDiv, Nat.reducePow, UInt8.reduceToNat, Int.reduceEq, Int.reduceLT, Int.reduceLE, ↓reduceIte, Nat.reduceEqDiff, Nat.reduceAdd, Int.reduceToNat, reduceCtorEq, Nat.reduceLeDiff, ↓u_delta_Apply]
              cases bad2 with
              | true =>
                simp -dsimp (disch := first | assumption | omega) only [↓vmPre, vmPost, vmWrd, vmDat, eq_self, forall_const, Nat.reduceLT, Nat.reduceEqDiff, Nat.reduceSub, Nat.reduceMul, Nat.reduceMod, Nat.reduceDiv, Nat.reducePow, UInt8.reduceToNat, Int.reduceEq, Int.reduceLT, Int.reduceLE, ↓reduceIte, Nat.reduceEqDiff, Nat.reduceAdd, Int.reduceToNat, reduceCtorEq, Nat.reduceLeDiff, ↓u_delta_Apply]
                simp [ApplyR, hd (by rw [hs]; simp)]
              | false =>
                simp only [true_and] at hs
                simp -dsimp (disch := first | assumption | omega) only [↓vmPre, vmPost, vmWrd, vmDat, eq_self, forall_const, Nat.reduceLT, Nat.reduceEqDiff, Nat.reduceSub, Nat.reduceMul, Nat.reduceMod, Nat.reduceDiv, Nat.reducePow, UInt8.reduceToNat, Int.reduceEq, Int.reduceLT, Int.reduceLE, ↓reduceIte, Nat.reduceEqDiff, Nat.reduceAdd, Int.reduceToNat, reduceCtorEq, Nat.reduceLeDiff, ↓u_delta_Apply]
                refine vif_cases (fun hr => ?_) (fun hr => ?_)
                · simp -dsimp (disch := first | assumption | omega) only [↓vmPre, vmPost, vmWrd, vmDat, eq_self, forall_const, Nat.reduceLT, Nat.reduceEqDiff, Nat.reduceSub, Nat.reduceMul, Nat.reduceMod, Nat.reduceDiv, Nat.reducePow, UInt8.reduceToNat, Int.reduceEq, Int.reduceLT, Int.reduceLE, ↓reduceIte, Nat.reduceEqDiff, Nat.reduceAdd, Int.reduceToNat, reduceCtorEq, Nat.reduceLeDiff, ↓u_delta_Apply]
                  simp [ApplyR, hd (by rw [hs, if_neg (by omega)])]
                · simp -dsimp (disch := first | assumption | omega) only [↓vmPre, vmPost, vmWrd, vmDat, eq_self, forall_const, Nat.reduceLT, Nat.reduceEqDiff, Nat.reduceSub, Nat.reduceMul, Nat.reduceMod, Nat.reduceDiv, Nat.reducePow, UInt8.reduceToNat, Int.reduceEq, Int.reduceLT, Int.reduceLE, ↓reduceIte, Nat.reduceEqDiff, Nat.reduceAdd, Int.reduceToNat, reduceCtorEq, Nat.reduceLeDiff, ↓u_delta_Apply]
                  refine vif_cases (fun hm2 => ?_) (fun hm2 => ?_)
                  · simp -dsimp (disch := first | assumption | omega) only [↓vmPre, vmPost, vmWrd, vmDat, eq_self, forall_const, Nat.reduceLT, Nat.reduceEqDiff, Nat.reduceSub, Nat.reduceMul, Nat.reduceMod, Nat.reduceDiv, Nat.reducePow, UInt8.reduceToNat, Int.reduceEq, Int.reduceLT, Int.reduceLE, ↓reduceIte, Nat.reduceEqDiff, Nat.reduceAdd, Int.reduceToNat, reduceCtorEq, Nat.reduceLeDiff, ↓u_delta_Apply]
                    simp [ApplyR, hd (by rw [hs, if_neg (by omega)])]
                  · rw [if_pos (by omega)] at hs
                    rw [hs] at hrun
                    have hl2 : (base.drop a).length = base.length - a := by simp
                    subst hsz
                    simp -dsimp (disch := first | assumption | omega) only [↓vmPre, vmPost, vmWrd, vmDat, eq_self, forall_const, Nat.reduceLT, Nat.reduceEqDiff, Nat.reduceSub, Nat.reduceMul, Nat.reduceMod, Nat.reduceDiv, Nat.reducePow, UInt8.reduceToNat, Int.reduceEq, Int.reduceLT, Int.reduceLE, ↓reduceIte, Nat.reduceEqDiff, Nat.reduceAdd, Int.reduceToNat, reduceCtorEq, Nat.reduceLeDiff, ↓u_delta_Apply, hl2]
                    have hlen : (out ++ (base.drop a).take 65536).length = out.length + 65536 := by simp; omega
                    refine Rnd_keep r2'.length (by omega) (by simp) ⟨ver + 1, out.length + 65536, out.length + 65536, (out ++ (base.drop a).take 65536).map by8, out ++ (base.drop a).take 65536, r2', rfl, by omega, by omega, by rw [List.take_of_length_le (by simp)], by simp, ?_, ?_, ?_⟩
                    · rw [← hrun]; exact dRun_fuel _ _ _ _ (by simp) (by omega)
                    · rw [hlen]; rfl
                    · rw [List.map_append, ← hcs]
            · rw [if_neg hz] at hsz
              simp -dsimp (disch := first | assumption | omega) only [↓vmPre, vmPost, vmWrd, vmDat, eq_self, forall_const, Nat.reduceLT, Nat.reduceEqDiff, Nat.reduceSub, Nat.reduceMul, Nat.reduceMod, Nat.reduceDiv, Nat.reducePow, UInt8.reduceToNat, Int.reduceEq, Int.reduceLT, Int.reduceLE, ↓reduceIte, Nat.reduceEqDiff, Nat.reduceAdd, Int.reduceToNat, reduceCtorEq, Nat.reduceLeDiff, ↓u_delta_Apply]
              cases bad2 with
              | true =>
                simp -dsimp (disch := first | assumption | omega) only [↓vmPre, vmPost, vmWrd, vmDat, eq_self, forall_const, Nat.reduceLT, Nat.reduceEqDiff, Nat.reduceSub, Nat.reduceMul, Nat.reduceMod, Nat.reduceDiv, Nat.reducePow, UInt8.reduceToNat, Int.reduceEq, Int.reduceLT, Int.reduceLE, ↓reduceIte, Nat.reduceEqDiff, Nat.reduceAdd, Int.reduceToNat, reduceCtorEq, Nat.reduceLeDiff, ↓u_delta_Apply]
                simp [ApplyR, hd (by rw [hs]; simp)]
              | false =>
                simp only [true_and] at hs
                simp -dsimp (disch := first | assumption | omega) only [↓vmPre, vmPost, vmWrd, vmDat, eq_self, forall_const, Nat.reduceLT, Nat.reduceEqDiff, Nat.reduceSub, Nat.reduceMul, Nat.reduceMod, Nat.reduceDiv, Nat.reducePow, UInt8.reduceToNat, Int.reduceEq, Int.reduceLT, Int.reduceLE, ↓reduceIte, Nat.reduceEqDiff, Nat.reduceAdd, Int.reduceToNat, reduceCtorEq, Nat.reduceLeDiff, ↓u_delta_Apply]
                refine vif_cases (fun hr => ?_) (fun hr => ?_)
                · simp -dsimp (disch := first | assumption | omega) only [↓vmPre, vmPost, vmWrd, vmDat, eq_self, forall_const, Nat.reduceLT, Nat.reduceEqDiff, Nat.reduceSub, Nat.reduceMul, Nat.reduceMod, Nat.reduceDiv, Nat.reducePow, UInt8.reduceToNat, Int.reduceEq, Int.reduceLT, Int.reduceLE, ↓reduceIte, Nat.reduceEqDiff, Nat.reduceAdd, Int.reduceToNat, reduceCtorEq, Nat.reduceLeDiff, ↓u_delta_Apply]
                  simp [ApplyR, hd (by rw [hs, if_neg (by omega)])]
                · simp -dsimp (disch := first | assumption | omega) only [↓vmPre, vmPost, vmWrd, vmDat, eq_self, forall_const, Nat.reduceLT, Nat.reduceEqDiff, Nat.reduceSub, Nat.reduceMul, Nat.reduceMod, Nat.reduceDiv, Nat.reducePow, UInt8.reduceToNat, Int.reduceEq, Int.reduceLT, Int.reduceLE, ↓reduceIte, Nat.reduceEqDiff, Nat.reduceAdd, Int.reduceToNat, reduceCtorEq, Nat.reduceLeDiff, ↓u_delta_Apply]
                  refine vif_cases (fun hm2 => ?_) (fun hm2 => ?_)
                  · simp -dsimp (disch := first | assumption | omega) only [↓vmPre, vmPost, vmWrd, vmDat, eq_self, forall_const, Nat.reduceLT, Nat.reduceEqDiff, Nat.reduceSub, Nat.reduceMul, Nat.reduceMod, Nat.reduceDiv, Nat.reducePow, UInt8.reduceToNat, Int.reduceEq, Int.reduceLT, Int.reduceLE, ↓reduceIte, Nat.reduceEqDiff, Nat.reduceAdd, Int.reduceToNat, reduceCtorEq, Nat.reduceLeDiff, ↓u_delta_Apply]
                    simp [ApplyR, hd (by rw [hs, if_neg (by omega)])]
                  · rw [if_pos (by omega)] at hs
                    rw [hs] at hrun
                    have hl2 : (base.drop a).length = base.length - a := by simp
                    subst hsz
                    simp -dsimp (disch := first | assumption | omega) only [↓vmPre, vmPost, vmWrd, vmDat, eq_self, forall_const, Nat.reduceLT, Nat.reduceEqDiff, Nat.reduceSub, Nat.reduceMul, Nat.reduceMod, Nat.reduceDiv, Nat.reducePow, UInt8.reduceToNat, Int.reduceEq, Int.reduceLT, Int.reduceLE, ↓reduceIte, Nat.reduceEqDiff, Nat.reduceAdd, Int.reduceToNat, reduceCtorEq, Nat.reduceLeDiff, ↓u_delta_Apply, hl2]
                    have hlen : (out ++ (base.drop a).take sz).length = out.length + sz := by simp; omega
                    refine Rnd_keep r2'.length (by omega) (by simp) ⟨ver + 1, out.length + sz, out.length + sz, (out ++ (base.drop a).take sz).map by8, out ++ (base.drop a).take sz, r2', rfl, by omega, by omega, by rw [List.take_of_length_le (by simp)], by simp, ?_, ?_, ?_⟩
                    · rw [← hrun]; exact dRun_fuel _ _ _ _ (by simp) (by omega)
                    · rw [hlen]; rfl
                    · rw [List.map_append, ← hcs]
end Go.Proofs.YtknphdcjopaaoaaDoor
