import Derived.Test.YtfgljddikcghhaaDoorVzRSyms2
import Derived.Test.YtfgljddikcghhaaDoorVzCodeW
namespace Go.Proofs.YtfgljddikcghhaaDoor
open Go.RowKit
variable [Globs]
set_option linter.unusedSectionVars false
set_option linter.unusedVariables false
set_option linter.unusedSimpArgs false

/-- The document's reader of the code of these lengths. -/
def rdR (ls : List Nat) : Rd := rdC ls (CSt.all ls 15).bs
/-- The stream, as it goes well or at the end of its bits. -/
structure StmX (H : List Ob) (id : Nat) (inn : List UInt8) (at_ : Nat) (o : TV) (l : List UInt8) (most win : Int) (J : Option Nat) (ok : Bool) : Prop where
 ob : H[id]? = some (stm inn (if ok then at_ else 8 * inn.length) o most win (if ok then 0 else 10))
 row : Row8 H o l J
 ne : J ≠ some id
 at_ : ok = true → at_ ≤ 8 * inn.length
 len : l.length ≤ 1000000
theorem StmOk.x {H : List Ob} {id : Nat} {inn : List UInt8} {at_ : Nat} {o : TV} {l : List UInt8} {most win : Int} {J : Option Nat} (h : StmOk H id inn at_ o l most win J) : StmX H id inn at_ o l most win J true := ⟨h.ob, h.row, h.ne, fun _ => h.at_, h.len⟩
theorem StmX.ok {H : List Ob} {id : Nat} {inn : List UInt8} {at_ : Nat} {o : TV} {l : List UInt8} {most win : Int} {J : Option Nat} (h : StmX H id inn at_ o l most win J true) : StmOk H id inn at_ o l most win J := ⟨h.ob, h.row, h.ne, h.at_ rfl, h.len⟩
theorem StmX.bad {H : List Ob} {id : Nat} {inn : List UInt8} {at_ : Nat} {o : TV} {l : List UInt8} {most win : Int} {J : Option Nat} (h : StmX H id inn at_ o l most win J false) : StmBad H id inn most win 10 := ⟨by simp, _, o, Nat.le_refl _, h.row.width1, h.ob⟩
theorem StmX.lt {H : List Ob} {id : Nat} {inn : List UInt8} {at_ : Nat} {o : TV} {l : List UInt8} {most win : Int} {J : Option Nat} {ok : Bool} (h : StmX H id inn at_ o l most win J ok) : id < H.length := (List.getElem?_eq_some_iff.1 h.ob).1
/-- New objects, and such as are not the stream's. -/
theorem StmX.keep {H H' : List Ob} {id : Nat} {inn : List UInt8} {at_ : Nat} {o : TV} {l : List UInt8} {most win : Int} {J : Option Nat} {ok : Bool} (h : StmX H id inn at_ o l most win J ok) (hk : ∀ i, i = id ∨ J = some i → H'[i]? = H[i]?) : StmX H' id inn at_ o l most win J ok := by
 refine ⟨by rw [hk id (.inl rfl)]; exact h.ob, ?_, h.ne, h.at_, h.len⟩
 have hr := h.row
 cases J with
 | none => exact hr
 | some j =>
  obtain ⟨v, h1, h2⟩ := hr
  exact ⟨v, h1, by rw [hk j (.inr rfl)]; exact h2⟩
theorem StmX.jlt {H : List Ob} {id : Nat} {inn : List UInt8} {at_ : Nat} {o : TV} {l : List UInt8} {most win : Int} {J : Option Nat} {ok : Bool} (h : StmX H id inn at_ o l most win J ok) {j : Nat} (hj : J = some j) : j < H.length := by
 have := h.row; subst hj
 obtain ⟨v, _, h2⟩ := this
 exact (List.getElem?_eq_some_iff.1 h2).1
theorem StmX.app {H : List Ob} {id : Nat} {inn : List UInt8} {at_ : Nat} {o : TV} {l : List UInt8} {most win : Int} {J : Option Nat} {ok : Bool} (h : StmX H id inn at_ o l most win J ok) {G : List Ob} : StmX (H ++ G) id inn at_ o l most win J ok := h.keep fun i hi => by
 rcases hi with rfl | hi
 ·exact List.getElem?_append_left h.lt
 ·exact List.getElem?_append_left (h.jlt hi)
theorem StmX.set {H : List Ob} {id : Nat} {inn : List UInt8} {at_ : Nat} {o : TV} {l : List UInt8} {most win : Int} {J : Option Nat} {ok : Bool} (h : StmX H id inn at_ o l most win J ok) {k : Nat} {x : Ob} (h1 : k ≠ id) (h2 : J ≠ some k) : StmX (H.set k x) id inn at_ o l most win J ok := h.keep fun i hi => by
 rcases hi with rfl | hi
 ·exact List.getElem?_set_ne h1
 ·exact List.getElem?_set_ne (fun e => h2 (by rw [e]; exact hi))
theorem sbitsX {id n at_ : Nat} {inn l : List UInt8} {o : TV} {most win : Int} {J : Option Nat} {ok : Bool} {H : List Ob} (hst : StmX H id inn at_ o l most win J ok) (hn : 1 ≤ n ∧ n ≤ 16) (hi : inn.length ≤ 1000000) : VCalls Tryd.prog 34 [.op id 0 [], i64 (n : Int)] H
  (fun x H' => Frm id none H H' ∧ H'.length = H.length ∧ StmX H' id inn (at_ + n) o l most win J (ok && decide (n ≤ ((allB inn).drop at_).length)) ∧ x = i64 ((if ok && decide (n ≤ ((allB inn).drop at_).length) then valN (((allB inn).drop at_).take n) else 0 : Nat) : Int)) := by
 have hlt := hst.lt
 cases ok with
 | true =>
  refine VCalls.mono (sbitsS hst.ok hn.2 hi) ?_
  rintro x H' ⟨h1, h2, hx⟩
  refine ⟨h1, h2, ?_⟩
  rw [Bool.true_and]
  by_cases hc : n ≤ ((allB inn).drop at_).length
  ·rw [if_pos hc] at hx
   rw [decide_eq_true hc, if_pos rfl]
   exact ⟨hx.2.x, hx.1⟩
  ·rw [if_neg hc] at hx
   rw [decide_eq_false hc, if_neg (by simp)]
   exact ⟨⟨hx.2.1, hst.row.keep h1 hst.ne (.inl rfl), hst.ne, by simp, hst.len⟩, hx.1⟩
 | false =>
  refine VCalls.mono (sbitsV hst.row.width1 hst.ob hn.2 hi (by simp)) ?_
  intro x H' hx
  have hob : H[id]? = some (stm inn (8 * inn.length) o most win 10) := hst.ob
  simp only [Bool.false_eq_true, if_false] at hx
  rw [if_neg (by omega), if_neg (by decide), set_same hob] at hx
  obtain ⟨rfl, rfl⟩ := hx
  rw [Bool.false_and, if_neg (by simp)]
  exact ⟨Frm.refl, rfl, ⟨hst.ob, hst.row, hst.ne, by simp, hst.len⟩, rfl⟩
section
omit [Globs]
theorem thirdL_len (B : List Bool) : ∀ i, (thirdL B i).length = 19
 | 0 => rfl
 | i + 1 => by rw [thirdL, List.length_set, thirdL_len B i]
theorem bits_le (n : Nat) (B : List Bool) : valN (B.take n) < 2 ^ n := by
 have h1 := valN_lt (B.take n)
 have h2 : (B.take n).length ≤ n := by rw [List.length_take]; omega
 have h3 : 2 ^ (B.take n).length ≤ 2 ^ n := Nat.pow_le_pow_right (by omega) h2
 omega
end
/-- The loop that reads the third code's lengths. -/
theorem rthird {id R1 R2 O T at_ n m k : Nat} {inn l : List UInt8} {o : TV} {most win : Int} {J : Option Nat} {H : List Ob} {Q : VEx → Env → List Ob → Prop} (hst : StmOk H id inn at_ o l most win J) (hi : inn.length ≤ 1000000) (hk : k ≤ 19)
  (hO : H[O]? = some (.obj 0 (.arr 19 1 (orderL.map fun (n : Nat) => i64 (n : Int))))) (hT : H[T]? = some (nsO 0 (thirdL ((allB inn).drop at_) 0))) (hne : O ≠ id ∧ T ≠ id ∧ O ≠ T ∧ J ≠ some T)
  (hq : ∀ H' L y, Frm id (some T) H H' → L.length = 19 → H'[T]? = some (nsO 0 L) → (3 * k ≤ ((allB inn).drop at_).length → L = thirdL ((allB inn).drop at_) k) → StmX H' id inn (at_ + 3 * k) o l most win J (decide (3 * k ≤ ((allB inn).drop at_).length)) → Q .nor [(0, .op id 0 []), (2, .op R1 0 []), (3, .op R2 0 []), (5, i64 (n : Int)), (6, i64 (m : Int)), (7, i64 (k : Int)), (8, .os 1 O 0 [] 0 19 19), (9, .os 1 T 0 [] 0 19 19), (10, i64 (k : Int)), (50, y)] H') :
  vwp Tryd.prog (.loop [0, 2, 3, 5, 6, 7, 8, 9, 10] c_ref1_Stream_told_L1) (Blk 0 Q) [(0, .op id 0 []), (2, .op R1 0 []), (3, .op R2 0 []), (5, i64 (n : Int)), (6, i64 (m : Int)), (7, i64 (k : Int)), (8, .os 1 O 0 [] 0 19 19), (9, .os 1 T 0 [] 0 19 19), (10, i64 ((0 : Nat) : Int))] H := by
 refine w_loop (fun q e H' => ∃ i : Nat, q = k - i ∧ i ≤ k ∧ e = [(0, .op id 0 []), (2, .op R1 0 []), (3, .op R2 0 []), (5, i64 (n : Int)), (6, i64 (m : Int)), (7, i64 (k : Int)), (8, .os 1 O 0 [] 0 19 19), (9, .os 1 T 0 [] 0 19 19), (10, i64 (i : Int))] ∧ Frm id (some T) H H' ∧
  (∃ L : List Nat, L.length = 19 ∧ H'[T]? = some (nsO 0 L) ∧ (3 * i ≤ ((allB inn).drop at_).length → L = thirdL ((allB inn).drop at_) i)) ∧ StmX H' id inn (at_ + 3 * i) o l most win J (decide (3 * i ≤ ((allB inn).drop at_).length))) k ?_ ?_
 ·exact ⟨0, rfl, by omega, rfl, Frm.refl, ⟨_, thirdL_len _ _, hT, fun _ => rfl⟩, by simpa using hst.x⟩
 ·rintro q e H' ⟨i, rfl, hik, rfl, hfr, ⟨L, hL, h2, h3⟩, hs⟩
  by_cases hlt : i < k
  ·obtain ⟨ov, hov⟩ : ∃ ov, orderL[i]? = some ov := ⟨_, List.getElem?_eq_getElem (show i < 19 by omega)⟩
   have hov2 : ov < 19 := by
    have : ∀ x ∈ orderL, x < 19 := by decide
    exact this ov (List.mem_of_getElem? hov)
   have hO' : H'[O]? = some (.obj 0 (.arr 19 1 (orderL.map fun (n : Nat) => i64 (n : Int)))) := by rw [hfr.2 O (List.getElem?_eq_some_iff.1 hO).1 hne.1 (by simpa using Ne.symm hne.2.2.1)]; exact hO
   have hol : orderL.length = 19 := rfl
   simp -dsimp (disch := first | assumption | omega | (simp only [vmLen]; done) | (simp only [vmLen]; omega)) only [↓vmPre, vmPost, vmWrd, vmDat, eq_self, forall_const, Nat.reduceLT, Nat.reduceEqDiff, Nat.reduceSub, Nat.reduceMul, Nat.reduceMod, Nat.reduceDiv, Nat.reducePow, UInt8.reduceToNat, Int.reduceEq, Int.reduceLT, Int.reduceLE, ↓reduceIte, Nat.reduceAdd, Int.reduceToNat, reduceCtorEq, Nat.reduceLeDiff, ↓u_ref1_Stream_told, hO', hov, hol]
   refine VCalls.callsP (VCalls.mono (sbitsX (n := 3) hs (by omega) hi) ?_)
   rintro x H2 ⟨g1, g2, g3, hx⟩
   obtain ⟨v, hv⟩ : ∃ v : Nat, v = (if decide (3 * i ≤ ((allB inn).drop at_).length) && decide (3 ≤ ((allB inn).drop (at_ + 3 * i)).length) then valN (((allB inn).drop (at_ + 3 * i)).take 3) else 0) := ⟨_, rfl⟩
   rw [← hv] at hx
   subst hx
   obtain ⟨lv, hlv⟩ : ∃ lv, L[ov]? = some lv := ⟨_, List.getElem?_eq_getElem (by omega)⟩
   have hT2 : H2[T]? = some (nsO 0 L) := by rw [g1.2 T (List.getElem?_eq_some_iff.1 h2).1 hne.2.1 (by simp)]; exact h2
   simp -dsimp (disch := first | assumption | omega | (simp only [vmLen]; done) | (simp only [vmLen]; omega)) only [↓vmPre, vmPost, vmWrd, vmDat, eq_self, forall_const, Nat.reduceLT, Nat.reduceEqDiff, Nat.reduceSub, Nat.reduceMul, Nat.reduceMod, Nat.reduceDiv, Nat.reducePow, UInt8.reduceToNat, Int.reduceEq, Int.reduceLT, Int.reduceLE, ↓reduceIte, Nat.reduceAdd, Int.reduceToNat, reduceCtorEq, Nat.reduceLeDiff, ↓u_ref1_Stream_told, hT2, hL, hlv]
   refine ⟨⟨?_, ?_⟩, ?_⟩
   ·have hset : (L.map fun (n : Nat) => i64 (n : Int)).set ov (i64 (v : Int)) = (L.set ov v).map fun (n : Nat) => i64 (n : Int) := by rw [List.map_set]
    have hTl : T < H2.length := (List.getElem?_eq_some_iff.1 hT2).1
    have hlen : ((allB inn).drop at_).length = (allB inn).length - at_ := List.length_drop
    have hlen2 : ((allB inn).drop (at_ + 3 * i)).length = (allB inn).length - (at_ + 3 * i) := List.length_drop
    have hok : (decide (3 * i ≤ ((allB inn).drop at_).length) && decide (3 ≤ ((allB inn).drop (at_ + 3 * i)).length)) = decide (3 * (i + 1) ≤ ((allB inn).drop at_).length) := by
     rw [← Bool.decide_and]
     congr 1
     rw [hlen, hlen2]
     apply propext; omega
    rw [hok] at g3 hv
    rw [hset]
    refine Rnd_keep (k - (i + 1)) (by omega) (by have := hfr.1; simp; omega) ⟨i + 1, rfl, by omega, rfl, ?_, ⟨L.set ov v, by simp [hL], by simp [hTl, hL], fun hle => ?_⟩, ?_⟩
    ·refine hfr.trans (J' := some T) Jn.refl ⟨by simp [g2], fun j hj h1 h2 => ?_⟩
     rw [List.getElem?_set_ne (fun e => h2 (by rw [e]))]
     exact g1.2 j hj h1 (by simp)
    ·have hle' : 3 * (i + 1) ≤ ((allB inn).drop at_).length := by rw [hlen]; exact hle
     rw [if_pos (decide_eq_true hle')] at hv
     rw [thirdL, h3 (by omega), hv, List.getD_eq_getElem?_getD, hov, List.drop_drop]
     rfl
    ·rw [show at_ + 3 * (i + 1) = at_ + 3 * i + 3 by omega, ← hlen]
     exact g3.set hne.2.1 hne.2.2.2
   ·change Kept [56] _ _ _
    intro s hs j ver p hg
    rw [List.mem_singleton] at hs
    subst hs
    simp [get] at hg
    obtain ⟨rfl, _⟩ := hg
    exact List.getElem?_set_ne (Ne.symm hne.2.2.1)
   ·change Kept [56] _ _ _
    intro s hs j ver p hg
    rw [List.mem_singleton] at hs
    subst hs
    simp [get] at hg
    obtain ⟨rfl, _⟩ := hg
    exact g1.2 O (by have := (List.getElem?_eq_some_iff.1 hO').1; omega) hne.1 (by simp)
  ·have hik2 : i = k := by omega
   subst hik2
   simp -dsimp (disch := first | assumption | omega | (simp only [vmLen]; done) | (simp only [vmLen]; omega)) only [↓vmPre, vmPost, vmWrd, vmDat, eq_self, forall_const, Nat.reduceLT, Nat.reduceEqDiff, Nat.reduceSub, Nat.reduceMul, Nat.reduceMod, Nat.reduceDiv, Nat.reducePow, UInt8.reduceToNat, Int.reduceEq, Int.reduceLT, Int.reduceLE, ↓reduceIte, Nat.reduceAdd, Int.reduceToNat, reduceCtorEq, Nat.reduceLeDiff, ↓u_ref1_Stream_told]
   exact hq H' L _ hfr hL h2 h3 hs
end Go.Proofs.YtfgljddikcghhaaDoor

