import Derived.Test.YtfgljddikcghhaaDoorCodeR
import Derived.Test.YtfgljddikcghhaaDoorBaseC
namespace Go.Proofs.YtfgljddikcghhaaDoor
open Go.RowKit
variable [Globs]
set_option linter.unusedSectionVars false
set_option linter.unusedVariables false
set_option linter.unusedSimpArgs false

theorem same_take {l m : List UInt8} {k : Nat} (h : l.take k = m.take k) (h1 : k < l.length) (h2 : k < m.length) (e : l[k] = m[k]) : l.take (k + 1) = m.take (k + 1) := by
 rw [List.take_succ_eq_append_getElem h1, List.take_succ_eq_append_getElem h2, h, e]
theorem u8_ne {x y : UInt8} (h : x ≠ y) : ¬ (x.toNat = y.toNat) := fun e => h (UInt8.toNat_inj.1 e)

/-- Same: the same bytes? -/
theorem same (l m : List UInt8) (hl : l.length ≤ 9223372036854775807) (hm : m.length ≤ 9223372036854775807) : VPure Tryd.prog 11 [slB l, slB m] (fun x => x = tb (decide (l = m))) := by
 refine VCalls.toPureV (go_law0_Same (by simp) ?_)
 by_cases hlen : l.length = m.length
 case neg =>
  have hne : l ≠ m := fun e => hlen (by rw [e])
  simp -dsimp (disch := first | assumption | omega) only [↓vmPre, vmPost, vmWrd, vmDat, eq_self, forall_const, Nat.reduceLT, Nat.reduceEqDiff, Nat.reduceSub, Nat.reduceMul, Nat.reduceMod, Nat.reduceDiv, Nat.reducePow, UInt8.reduceToNat, Int.reduceEq, Int.reduceLT, Int.reduceLE, ↓reduceIte, Nat.reduceAdd, Int.reduceToNat, reduceCtorEq, Nat.reduceLeDiff, ↓u_law0_Same, decide_eq_false hne]
 simp -dsimp (disch := first | assumption | omega) only [↓vmPre, vmPost, vmWrd, vmDat, eq_self, forall_const, Nat.reduceLT, Nat.reduceEqDiff, Nat.reduceSub, Nat.reduceMul, Nat.reduceMod, Nat.reduceDiv, Nat.reducePow, UInt8.reduceToNat, Int.reduceEq, Int.reduceLT, Int.reduceLE, ↓reduceIte, Nat.reduceAdd, Int.reduceToNat, reduceCtorEq, Nat.reduceLeDiff, ↓u_law0_Same]
 refine w_loop (fun n e H => ∃ (k : Nat), n = l.length - k ∧ k ≤ l.length ∧ l.take k = m.take k ∧ e = [(0, slB l), (1, slB m), (5, i64 (k : Int))] ∧ H = []) l.length ?_ ?_
 ·exact ⟨0, by simp, by omega, by simp, rfl, rfl⟩
 ·rintro n e H ⟨k, rfl, hk, ht, rfl, rfl⟩
  by_cases hkl : k < l.length
  ·have hkm : k < m.length := by omega
   have g1 : l[k]? = some l[k] := by simp [hkl]
   have g2 : m[k]? = some m[k] := by simp [hkm]
   by_cases he : l[k] = m[k]
   ·have hx := same_take ht hkl hkm he
    have he' : l[k].toNat = m[k].toNat := by rw [he]
    simp -dsimp (disch := first | assumption | omega) only [↓vmPre, vmPost, vmWrd, vmDat, eq_self, forall_const, Nat.reduceLT, Nat.reduceEqDiff, Nat.reduceSub, Nat.reduceMul, Nat.reduceMod, Nat.reduceDiv, Nat.reducePow, UInt8.reduceToNat, Int.reduceEq, Int.reduceLT, Int.reduceLE, ↓reduceIte, Nat.reduceAdd, Int.reduceToNat, reduceCtorEq, Nat.reduceLeDiff, ↓u_law0_Same, g1, g2]
    exact Rnd_keep (l.length - (k + 1)) (by omega) (by simp) ⟨k + 1, rfl, by omega, hx, rfl, rfl⟩
   ·have he' := u8_ne he
    have hne : l ≠ m := fun e => he (by subst e; rfl)
    simp -dsimp (disch := first | assumption | omega) only [↓vmPre, vmPost, vmWrd, vmDat, eq_self, forall_const, Nat.reduceLT, Nat.reduceEqDiff, Nat.reduceSub, Nat.reduceMul, Nat.reduceMod, Nat.reduceDiv, Nat.reducePow, UInt8.reduceToNat, Int.reduceEq, Int.reduceLT, Int.reduceLE, ↓reduceIte, Nat.reduceAdd, Int.reduceToNat, reduceCtorEq, Nat.reduceLeDiff, ↓u_law0_Same, g1, g2, decide_eq_false hne]
  ·have hke : k = l.length := by omega
   have heq : l = m := by rw [hke, List.take_length, hlen, List.take_length] at ht; exact ht
   simp -dsimp (disch := first | assumption | omega) only [↓vmPre, vmPost, vmWrd, vmDat, eq_self, forall_const, Nat.reduceLT, Nat.reduceEqDiff, Nat.reduceSub, Nat.reduceMul, Nat.reduceMod, Nat.reduceDiv, Nat.reducePow, UInt8.reduceToNat, Int.reduceEq, Int.reduceLT, Int.reduceLE, ↓reduceIte, Nat.reduceAdd, Int.reduceToNat, reduceCtorEq, Nat.reduceLeDiff, ↓u_law0_Same, decide_eq_true heq]
/-- Roomy: the same bytes, with two more in their spare room. -/
theorem roomy (l : List UInt8) (hl : l.length ≤ 1000000) {H : List Ob} {K : TV → List Ob → Prop} (hk : K (.os 1 H.length 0 [] 0 l.length (l.length + 2)) (H ++ [.obj 0 (.arr (l.length + 2) 1 ((l ++ [71, 72]).map by8))])) :
  VCalls Tryd.prog 6 [slB l] H K := by
 refine go_law0_Roomy (by simp) ?_
 have c2 : ((l.length : Int) + 2) = ((l.length + 2 : Nat) : Int) := by omega
 have b1 : ((1 : Nat) : Int) * ((l.length + 2 : Nat) : Int) ≤ 281474976710656 := by omega
 have b2 : ((l.length + 2 : Nat) : Int) ≤ 9223372036854775807 := by omega
 have z : ∀ n : Nat, List.replicate n (TV.val (.int .u8 ((0 : Nat) : Int))) = (List.replicate n (0 : UInt8)).map by8 := fun n => by rw [List.map_replicate]; rfl
 have e1 : List.map by8 l ++ List.drop (min l.length (l.length + 2)) (List.replicate (l.length + 2) (TV.val (.int .u8 ((0 : Nat) : Int)))) = (l ++ [0, 0]).map by8 := by
  rw [z, ← List.map_drop, ← List.map_append, Nat.min_eq_left (by omega), List.drop_replicate, show l.length + 2 - l.length = 2 from by omega]; rfl
 have e2 : ((l ++ [0, 0]).map by8).set l.length (.val (.int .u8 ((71 : Nat) : Int))) = (l ++ [71, 0]).map by8 := by
  rw [List.map_append, List.set_append_right _ _ (by simp), List.map_append]; simp
 have e3 : ((l ++ [71, 0]).map by8).set (l.length + 1) (.val (.int .u8 ((72 : Nat) : Int))) = (l ++ [71, 72]).map by8 := by
  rw [List.map_append, List.set_append_right _ _ (by simp), List.map_append]; simp
 have g1 : ((l ++ [0, 0]).map by8)[l.length]? = some (by8 0) := by simp
 have g2 : ((l ++ [71, 0]).map by8)[l.length + 1]? = some (by8 0) := by simp
 simp -dsimp (disch := first | assumption | omega | (simp only [vmLen]; done) | (simp only [vmLen]; omega)) only [↓vmPre, vmPost, vmWrd, vmDat, eq_self, forall_const, Nat.reduceLT, Nat.reduceEqDiff, Nat.reduceSub, Nat.reduceMul, Nat.reduceMod, Nat.reduceDiv, Nat.reducePow, UInt8.reduceToNat, Int.reduceEq, Int.reduceLT, Int.reduceLE, ↓reduceIte, Nat.reduceAdd, Int.reduceToNat, reduceCtorEq, Nat.reduceLeDiff, ↓u_law0_Roomy, c2, e1, e2, e3, g1, g2]
 exact hk
abbrev x85 (l : List UInt8) : List UInt8 := l.map (· ^^^ 85)
theorem x85_step {c : List UInt8} {k : Nat} (hk : k < c.length) : (x85 (c.take k) ++ c.drop k).set k (c[k] ^^^ 85) = x85 (c.take (k + 1)) ++ c.drop (k + 1) := by
 have h1 : (x85 (c.take k)).length = k := by simp; omega
 rw [List.set_append_right _ _ (by omega), h1, Nat.sub_self, List.drop_eq_getElem_cons hk, List.set_cons_zero, List.take_succ_eq_append_getElem hk, x85, x85, List.map_append, List.append_assoc]
 rfl

/-- Still: as they were; then their owner writes into them. -/
theorem still (l : List UInt8) (hl : l.length ≤ 1000000) {H : List Ob} {id ver : Nat} {K : TV → List Ob → Prop} (ho : H[id]? = some (.obj ver (.arr (l.length + 2) 1 ((l ++ [71, 72]).map by8))))
  (hk : K (tb true) (H.set id (.obj ver (.arr (l.length + 2) 1 ((x85 (l ++ [71, 72])).map by8))))) :
  VCalls Tryd.prog 9 [.os 1 id ver [] 0 l.length (l.length + 2), slB l] H K := by
 refine go_law0_Still (by simp) ?_
 have hid : id < H.length := (List.getElem?_eq_some_iff.1 ho).1
 have c2 : ((l.length : Int) + 2) = ((l.length + 2 : Nat) : Int) := by omega
 have g1 : (l ++ [71, 72])[l.length]? = some 71 := by simp
 have g2 : (l ++ [71, 72])[l.length + 1]? = some 72 := by simp
 have hL : (l ++ [71, 72]).length = l.length + 2 := by simp
 have ht : (l ++ [71, 72]).take l.length = l := by simp
 generalize hc : l ++ [71, 72] = c at *
 simp -dsimp (disch := first | assumption | omega | (simp only [vmLen]; done) | (simp only [vmLen]; omega)) only [↓vmPre, vmPost, vmWrd, vmDat, eq_self, forall_const, Nat.reduceLT, Nat.reduceEqDiff, Nat.reduceSub, Nat.reduceMul, Nat.reduceMod, Nat.reduceDiv, Nat.reducePow, UInt8.reduceToNat, Int.reduceEq, Int.reduceLT, Int.reduceLE, ↓reduceIte, Nat.reduceAdd, Int.reduceToNat, reduceCtorEq, Nat.reduceLeDiff, ↓u_law0_Still, c2, ho]
 refine (same l l (by omega) (by omega)).lends (args' := [slB l, slB l]) (by simp -dsimp (disch := first | assumption | omega) only [↓vmPre, vmPost, vmWrd, vmDat, eq_self, forall_const, Nat.reduceLT, Nat.reduceEqDiff, Nat.reduceSub, Nat.reduceMul, Nat.reduceMod, Nat.reduceDiv, Nat.reducePow, UInt8.reduceToNat, Int.reduceEq, Int.reduceLT, Int.reduceLE, ↓reduceIte, Nat.reduceAdd, Int.reduceToNat, reduceCtorEq, Nat.reduceLeDiff, ho, hL, ht]) ?_
 rintro x rfl
 refine ⟨rfl, ?_⟩
 rw [show tb (decide (l = l)) = tb true from by simp]
 simp -dsimp (disch := first | assumption | omega | (simp only [vmLen]; done) | (simp only [vmLen]; omega)) only [↓vmPre, vmPost, vmWrd, vmDat, eq_self, forall_const, Nat.reduceLT, Nat.reduceEqDiff, Nat.reduceSub, Nat.reduceMul, Nat.reduceMod, Nat.reduceDiv, Nat.reducePow, UInt8.reduceToNat, Int.reduceEq, Int.reduceLT, Int.reduceLE, ↓reduceIte, Nat.reduceAdd, Int.reduceToNat, reduceCtorEq, Nat.reduceLeDiff, ↓u_law0_Still, ho, g1, g2]
 ·refine w_loop (fun n e H' => ∃ (k : Nat), n = c.length - k ∧ k ≤ c.length ∧ e = [(6, .os 1 id ver [] 0 (l.length + 2) (l.length + 2)), (7, tb true), (8, i64 (k : Int))] ∧ H' = H.set id (.obj ver (.arr (l.length + 2) 1 ((x85 (c.take k) ++ c.drop k).map by8)))) c.length ?_ ?_
  ·refine ⟨0, by simp, by omega, rfl, ?_⟩
   have e0 : x85 (c.take 0) ++ c.drop 0 = c := by simp
   obtain ⟨h1, h2⟩ := List.getElem?_eq_some_iff.1 ho
   rw [e0, ← h2, List.set_getElem_self]
  ·rintro n e H' ⟨k, rfl, hkl, rfl, rfl⟩
   have gs : ∀ o, (H.set id o)[id]? = some o := fun o => by simp [hid]
   by_cases hkc : k < c.length
   ·have hk2 : k < l.length + 2 := by omega
    have hlen : (x85 (c.take k)).length = k := by simp; omega
    have g3 : (x85 (c.take k) ++ c.drop k)[k]? = some c[k] := by
     rw [List.getElem?_append_right (by omega), hlen, Nat.sub_self, List.getElem?_drop]; simp [hkc]
    have g4 := x85_step hkc
    have h85 : ∀ (t : TypeId) (x : UInt8), binV t .xor (.int .u8 (x.toNat : Int)) (.int .u8 ((85 : Nat) : Int)) = some (.int .u8 ((x ^^^ 85).toNat : Int)) := fun t x => b_xor8 (t := t) (x := x) (y := 85)
    generalize x85 (c.take k) ++ c.drop k = r at *
    generalize c[k] = y at *
    simp -dsimp (disch := first | assumption | omega | (simp only [vmLen]; done) | (simp only [vmLen]; omega)) only [↓vmPre, vmPost, vmWrd, vmDat, eq_self, forall_const, Nat.reduceLT, Nat.reduceEqDiff, Nat.reduceSub, Nat.reduceMul, Nat.reduceMod, Nat.reduceDiv, Nat.reducePow, UInt8.reduceToNat, Int.reduceEq, Int.reduceLT, Int.reduceLE, ↓reduceIte, Nat.reduceAdd, Int.reduceToNat, reduceCtorEq, Nat.reduceLeDiff, ↓u_law0_Still, gs, g3, g4, h85, map_set8, List.set_set]
    exact Rnd_keep (c.length - (k + 1)) (by omega) (by simp) ⟨k + 1, rfl, by omega, rfl, rfl⟩
   ·have hke : k = c.length := by omega
    have hk2 : ¬ k < l.length + 2 := by omega
    have e0 : x85 (c.take k) ++ c.drop k = x85 c := by rw [hke, List.take_length, List.drop_length, List.append_nil]
    have e1 : List.drop k c = [] := by rw [hke, List.drop_length]
    simp -dsimp (disch := first | assumption | omega | (simp only [vmLen]; done) | (simp only [vmLen]; omega)) only [↓vmPre, vmPost, vmWrd, vmDat, eq_self, forall_const, Nat.reduceLT, Nat.reduceEqDiff, Nat.reduceSub, Nat.reduceMul, Nat.reduceMod, Nat.reduceDiv, Nat.reducePow, UInt8.reduceToNat, Int.reduceEq, Int.reduceLT, Int.reduceLE, ↓reduceIte, Nat.reduceAdd, Int.reduceToNat, reduceCtorEq, Nat.reduceLeDiff, ↓u_law0_Still]
    rw [e1, List.append_nil]
    exact hk
end Go.Proofs.YtfgljddikcghhaaDoor

