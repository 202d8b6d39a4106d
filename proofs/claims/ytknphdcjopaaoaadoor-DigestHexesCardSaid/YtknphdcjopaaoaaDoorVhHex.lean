/- digest.Hex and Parse, and the document's. -/
import Derived.Test.YtknphdcjopaaoaaDoorCodeH
import Derived.Test.YtknphdcjopaaoaaDoorVbWByte
import Derived.Test.YtknphdcjopaaoaaDoorVsByte
import Derived.Test.YtknphdcjopaaoaaDoorVmQ
namespace Go.Proofs.YtknphdcjopaaoaaDoor
open Go.RowKit
set_option linter.unusedVariables false
set_option linter.unusedSimpArgs false

/-- A digit of 0 to 15. -/
def dig (n : Nat) : UInt8 := UInt8.ofNat (if n < 10 then 48 + n else 87 + n)
/-- The digits of bytes. -/
def hexOf (l : List UInt8) : List UInt8 := l.flatMap fun x => [dig (x.toNat / 16), dig (x.toNat % 16)]
def digTab : List UInt8 := [48, 49, 50, 51, 52, 53, 54, 55, 56, 57, 97, 98, 99, 100, 101, 102]
theorem digTab_at : ∀ n, n < 16 → digTab[n]? = some (dig n) := by decide
theorem and15 (n : Nat) : n &&& 15 = n % 16 := Nat.and_two_pow_sub_one_eq_mod n 4
theorem hexOf_len (l : List UInt8) : (hexOf l).length = 2 * l.length := by
  induction l with
  | nil => rfl
  | cons x l ih =>
    have e : hexOf (x :: l) = dig (x.toNat / 16) :: dig (x.toNat % 16) :: hexOf l := rfl
    rw [e, List.length_cons, List.length_cons, List.length_cons, ih]; omega
theorem hexOf_snoc (l : List UInt8) (x : UInt8) : hexOf (l ++ [x]) = hexOf l ++ [dig (x.toNat / 16)] ++ [dig (x.toNat % 16)] := by simp [hexOf]
theorem lit_tab : digTab = [48, 49, 50, 51, 52, 53, 54, 55, 56, 57, 97, 98, 99, 100, 101, 102] := rfl
set_option maxRecDepth 100000 in
theorem liesB : lies 70 2 0 := ⟨by decide, by kernel_rfl⟩

theorem bl_strH {l : List UInt8} : bl (str l) = l := by simp [bl, str]
/-- The builder in digest.Hex. -/
theorem hexB {l : List UInt8} {n : Nat} {arr a : TV} {v : Nat} {G : List Ob} (hn : n = l.length) (ha : BldSelf 1 0 [] a) : Bld ([.obj 0 arr, .obj 0 (.agg [a, .os 1 3 v [] 0 n n]), .fact 1 0 70 2, .bld v 5 l] ++ G) 1 0 [] 3 v (.agg [a, .os 1 3 v [] 0 n n]) l :=
  hn ▸   ⟨rfl, ⟨a, ha, rfl⟩, rfl, by decide, ⟨2, _, _, rfl, liesB⟩⟩
theorem hexS {a b c : TV} (ha : width a = 1) (hb : width b = 1) : setP [] (.agg [a, b]) (.agg [.op 1 0 [], c]) = if width c = 1 then some (.agg [.op 1 0 [], c]) else none := by
  rw [setP_nil]
  have e : width (.agg [a, b]) = 2 := by simp [width, widths, ha, hb]
  have e2 : width (.agg [.op 1 0 [], c]) = 1 + width c := by simp [width, widths]
  rw [e, e2]
  by_cases h : width c = 1
  · rw [if_pos h, if_pos (by omega)]
  · rw [if_neg h, if_neg (by omega)]
theorem shr4 {x : UInt8} : binV 5 .shr (.int .u8 (x.toNat : Int)) (.int .u64 ((4 : Nat) : Int)) = some (.int .u8 ((x.toNat / 16 : Nat) : Int)) := b_shr8 (by have := x.toNat_lt; omega) (by omega)
theorem and4 {x : UInt8} : binV 5 .and (.int .u8 (x.toNat : Int)) (.int .u8 ((15 : Nat) : Int)) = some (.int .u8 ((x.toNat % 16 : Nat) : Int)) := by rw [b_and8 (by have := x.toNat_lt; omega) (by omega), and15]
theorem hexV (l : List UInt8) (hl : l.length = 20) : VPure Tryd.prog 13 [.arr 20 1 (l.map by8)] (fun r => r = .val (.string (str (hexOf l)))) := by
  refine VCalls.toPureV (go_digest_Hex (by simp) ?_)
  simp -dsimp (disch := first | assumption | omega) only [↓vmPre, vmPost, vmWrd, vmDat, eq_self, forall_const, Nat.reduceLT, Nat.reduceEqDiff, Nat.reduceSub, Nat.reduceMul, Nat.reduceMod, Nat.reduceDiv, Nat.reducePow, UInt8.reduceToNat, Int.reduceEq, Int.reduceLT, Int.reduceLE, ↓reduceIte, Nat.reduceEqDiff, Nat.reduceAdd, Int.reduceToNat, reduceCtorEq, Nat.reduceLeDiff, ↓u_digest_Hex]
  refine w_loop (fun q e H => ∃ (i v : Nat) (a : TV), q = 20 - i ∧ i ≤ 20 ∧ BldSelf 1 0 [] a ∧ e = [(3, .op 1 0 []), (6, .arr 20 1 (l.map by8)), (7, i64 (i : Int))] ∧
    H = [.obj 0 (.arr 20 1 (l.map by8)), .obj 0 (.agg [a, .os 1 3 v [] 0 (hexOf (l.take i)).length (hexOf (l.take i)).length]), .fact 1 0 70 2, .bld v 5 (hexOf (l.take i))]) 20 ?_ ?_
  · exact ⟨0, 0, _, by simp, by simp, .inl rfl, rfl, by simp [hexOf]⟩
  · rintro q e H ⟨i, v, a, rfl, hi, ha, rfl, rfl⟩
    by_cases h : i < 20
    · have hg : l[i]? = some l[i] := List.getElem?_eq_getElem (by omega)
      have hsucc := List.take_succ_eq_append_getElem (l := l) (i := i) (by omega)
      have hsn := hexOf_snoc (l.take i) l[i]
      rw [← hsucc] at hsn
      have hlen : (hexOf (l.take i)).length = 2 * i := by rw [hexOf_len, List.length_take]; omega
      generalize hr2 : hexOf (l.take (i + 1)) = r2 at *
      generalize hexOf (l.take i) = r at *
      generalize l[i] = c at *
      have hc := c.toNat_lt
      have t1 := digTab_at (c.toNat / 16) (by omega)
      have t2 := digTab_at (c.toNat % 16) (by omega)
      rw [lit_tab] at t1 t2
      simp -dsimp (disch := first | assumption | omega) only [↓vmPre, vmPost, vmWrd, vmDat, eq_self, forall_const, Nat.reduceLT, Nat.reduceEqDiff, Nat.reduceSub, Nat.reduceMul, Nat.reduceMod, Nat.reduceDiv, Nat.reducePow, UInt8.reduceToNat, Int.reduceEq, Int.reduceLT, Int.reduceLE, ↓reduceIte, Nat.reduceEqDiff, Nat.reduceAdd, Int.reduceToNat, reduceCtorEq, Nat.reduceLeDiff, ↓u_digest_Hex, hg, shr4, and4, t1, t2, bl_strH]
      refine writeByteV (hexB (l := r) (G := []) rfl ha) (by omega) (by rw [hexS (width_self ha) rfl]; rfl) (fun x2 h2 => ?_)
      rw [hexS (width_self ha) rfl] at h2
      obtain rfl := Option.some.inj h2
      simp -dsimp (disch := first | assumption | omega) only [↓vmPre, vmPost, vmWrd, vmDat, eq_self, forall_const, Nat.reduceLT, Nat.reduceEqDiff, Nat.reduceSub, Nat.reduceMul, Nat.reduceMod, Nat.reduceDiv, Nat.reducePow, UInt8.reduceToNat, Int.reduceEq, Int.reduceLT, Int.reduceLE, ↓reduceIte, Nat.reduceEqDiff, Nat.reduceAdd, Int.reduceToNat, reduceCtorEq, Nat.reduceLeDiff, ↓u_digest_Hex, hg, shr4, and4, t1, t2, bl_strH]
      refine writeByteV (hexB (l := r ++ [dig (c.toNat / 16)]) (G := [_]) (by simp) (.inr rfl)) (by simp; omega) (by rw [hexS rfl rfl]; rfl) (fun x2 h2 => ?_)
      rw [hexS rfl rfl] at h2
      obtain rfl := Option.some.inj h2
      simp -dsimp (disch := first | assumption | omega) only [↓vmPre, vmPost, vmWrd, vmDat, eq_self, forall_const, Nat.reduceLT, Nat.reduceEqDiff, Nat.reduceSub, Nat.reduceMul, Nat.reduceMod, Nat.reduceDiv, Nat.reducePow, UInt8.reduceToNat, Int.reduceEq, Int.reduceLT, Int.reduceLE, ↓reduceIte, Nat.reduceEqDiff, Nat.reduceAdd, Int.reduceToNat, reduceCtorEq, Nat.reduceLeDiff, ↓u_digest_Hex]
      rw [← hsn]
      exact Rnd_cut (20 - (i + 1)) 4 (by omega) (by simp) rfl rfl ⟨i + 1, v + 1 + 1, _, rfl, by omega, .inr rfl, rfl, by rw [hr2, hsn]; simp⟩
    · have hi2 : i = 20 := by omega
      subst hi2
      have htl : l.take 20 = l := List.take_of_length_le (by omega)
      rw [htl]
      simp -dsimp (disch := first | assumption | omega) only [↓vmPre, vmPost, vmWrd, vmDat, eq_self, forall_const, Nat.reduceLT, Nat.reduceEqDiff, Nat.reduceSub, Nat.reduceMul, Nat.reduceMod, Nat.reduceDiv, Nat.reducePow, UInt8.reduceToNat, Int.reduceEq, Int.reduceLT, Int.reduceLE, ↓reduceIte, Nat.reduceEqDiff, Nat.reduceAdd, Int.reduceToNat, reduceCtorEq, Nat.reduceLeDiff, ↓u_digest_Hex]
      have hB := hexB (l := hexOf l) (arr := .arr 20 1 (l.map by8)) (a := a) (v := v) (G := []) rfl ha
      refine stringV hB.ob (by rw [getP_nil]) (width_self ha) hB.row (by rw [hexOf_len]; omega) (fun o ho => ?_)
      simp -dsimp (disch := first | assumption | omega) only [↓vmPre, vmPost, vmWrd, vmDat, eq_self, forall_const, Nat.reduceLT, Nat.reduceEqDiff, Nat.reduceSub, Nat.reduceMul, Nat.reduceMod, Nat.reduceDiv, Nat.reducePow, UInt8.reduceToNat, Int.reduceEq, Int.reduceLT, Int.reduceLE, ↓reduceIte, Nat.reduceEqDiff, Nat.reduceAdd, Int.reduceToNat, reduceCtorEq, Nat.reduceLeDiff, ↓u_digest_Hex]
end Go.Proofs.YtknphdcjopaaoaaDoor
