/- merge.Texts. -/
import Derived.Test.YtknphdcjopaaoaaVnState
namespace Go.Proofs.Ytknphdcjopaaoaa
open Go.RowKit
set_option linter.unusedVariables false
set_option linter.unusedSimpArgs false

/-- One line more. -/
def tstep (a b : List UInt8) (s : TS) (l : List UInt8) (k1 k2 : Bool) (i1 i2 : List UInt8) : TS :=
  if (k1 && k2) = true then ⟨[], [], [], s.out ++ (pieceOf s.o (s.x ++ i1) (s.y ++ i2) a b).1 ++ l, s.n + (pieceOf s.o (s.x ++ i1) (s.y ++ i2) a b).2⟩
  else ⟨s.o ++ l, if k1 = true then s.x ++ i1 ++ l else s.x ++ i1, if k2 = true then s.y ++ i2 ++ l else s.y ++ i2, s.out, s.n⟩
def tend (a b : List UInt8) (s : TS) (i1 i2 : List UInt8) : List UInt8 × Nat :=
  (s.out ++ (pieceOf s.o (s.x ++ i1) (s.y ++ i2) a b).1, s.n + (pieceOf s.o (s.x ++ i1) (s.y ++ i2) a b).2)
def tst (a b : List UInt8) (L : List (List UInt8)) (X Y : List Bool × List (List UInt8)) : Nat → TS
  | 0 => ⟨[], [], [], [], 0⟩
  | i + 1 => tstep a b (tst a b L X Y i) (L.getD i []) (X.1.getD i false) (Y.1.getD i false) (X.2.getD i []) (Y.2.getD i [])
/-- The merge of what becomes of a text on two sides. -/
def textsOf (a b : List UInt8) (L : List (List UInt8)) (X Y : List Bool × List (List UInt8)) : List UInt8 × Nat :=
  tend a b (tst a b L X Y L.length) (X.2.getD L.length []) (Y.2.getD L.length [])
structure TSmall (s : TS) (i : Nat) : Prop where
  o : s.o.length ≤ i * 4000
  x : s.x.length ≤ i * 8000
  y : s.y.length ≤ i * 8000
  out : s.out.length ≤ i * 100000000
  n : s.n ≤ i
theorem pieceOf_n (o x y a b : List UInt8) : (pieceOf o x y a b).2 ≤ 1 := by
  unfold pieceOf; split
  · simp
  split
  · simp
  split <;> simp
theorem tstep_small {a b : List UInt8} {s : TS} {i : Nat} {l i1 i2 : List UInt8} {k1 k2 : Bool} (h : TSmall s i) (hi : i ≤ 4000) (hab : a.length + b.length ≤ 4000) (hl : l.length ≤ 4000) (h1 : i1.length ≤ 4000) (h2 : i2.length ≤ 4000) : TSmall (tstep a b s l k1 k2 i1 i2) (i + 1) := by
  obtain ⟨ho, hx, hy, hout, hn⟩ := h
  have := pieceOf_len s.o (s.x ++ i1) (s.y ++ i2) a b
  have := pieceOf_n s.o (s.x ++ i1) (s.y ++ i2) a b
  simp only [List.length_append] at *
  unfold tstep
  split
  · constructor <;> simp only [List.length_append, List.length_nil] <;> omega
  · constructor
    · simp only [List.length_append]; omega
    · simp only []; split <;> simp only [List.length_append] <;> omega
    · simp only []; split <;> simp only [List.length_append] <;> omega
    · exact Nat.le_trans hout (Nat.mul_le_mul_right _ (Nat.le_succ i))
    · exact Nat.le_succ_of_le hn
theorem getD_le {L : List (List UInt8)} {n : Nat} (h : ∀ s ∈ L, s.length ≤ n) (i : Nat) : (L.getD i []).length ≤ n := by
  rw [List.getD_eq_getElem?_getD]
  cases e : L[i]? with
  | none => simp
  | some s => exact h s (List.mem_of_getElem? e)
theorem tst_small {a b : List UInt8} {L : List (List UInt8)} {X Y : List Bool × List (List UInt8)} (hab : a.length + b.length ≤ 4000) (hL : ∀ s ∈ L, s.length ≤ 4000) (hX : ∀ s ∈ X.2, s.length ≤ 4000) (hY : ∀ s ∈ Y.2, s.length ≤ 4000) : ∀ i, i ≤ 4000 → TSmall (tst a b L X Y i) i
  | 0, _ => ⟨by simp [tst], by simp [tst], by simp [tst], by simp [tst], by simp [tst]⟩
  | i + 1, hi => tstep_small (tst_small hab hL hX hY i (by omega)) (by omega) hab (getD_le hL i) (getD_le hX i) (getD_le hY i)

theorem Out.set {H : List Ob} {l : List UInt8} {J : Option Nat} {i v v' : Nat} {x x' : TV} (O : Out H l J) (h : H[i]? = some (.obj v x)) (hi : i ≠ 4) : Out (H.set i (.obj v' x')) l J := by
  obtain ⟨⟨a0, r0, ho, ha0, hb0⟩, hof⟩ := O
  have h3 : i ≠ 5 := fun e => by subst e; rw [hof] at h; cases h
  exact ⟨⟨a0, r0, by rw [List.getElem?_set_ne hi]; exact ho, ha0, hb0.keep fun j hj => by rw [List.getElem?_set_ne (fun e => by subst e; exact hb0.nb h hj)]⟩, by rw [List.getElem?_set_ne h3]; exact hof⟩
theorem TSt.fresh {H : List Ob} {X Y : List Bool × List (List UInt8)} {l : List UInt8} {j n : Nat} {a b : List UInt8} (hA : H[0]? = some (.obj 0 (ts a))) (hB : H[1]? = some (.obj 0 (ts b))) (hx : H[2]? = some (.obj 0 (sideT X))) (hy : H[3]? = some (.obj 0 (sideT Y))) (hn : H[6]? = some (.obj 0 (i64 (n : Int)))) (hc : ∃ c, H[9]? = some (.obj 0 c)) (O : Out H l (some j)) :
    TSt (H.set 9 (.obj 0 (.op H.length 0 [])) ++ [.obj 0 (.agg [.agg [.val (.pointer none), .val (.slice none 0 0)], .agg [.val (.pointer none), .val (.slice none 0 0)], .agg [.val (.pointer none), .val (.slice none 0 0)]]), .fact H.length 0 81 6]) a b X Y ⟨[], [], [], l, n⟩ H.length ∧ Out (H.set 9 (.obj 0 (.op H.length 0 [])) ++ [.obj 0 (.agg [.agg [.val (.pointer none), .val (.slice none 0 0)], .agg [.val (.pointer none), .val (.slice none 0 0)], .agg [.val (.pointer none), .val (.slice none 0 0)]]), .fact H.length 0 81 6]) l (some j) := by
  obtain ⟨c, hc⟩ := hc
  have h8 : 9 < H.length := (List.getElem?_eq_some_iff.1 hc).1
  have O7 := O.set (v' := 0) (x' := .op H.length 0 []) hc (by decide)
  have e : (H.set 9 (.obj 0 (.op H.length 0 []))).length = H.length := by simp
  have low : ∀ {i : Nat} {ob : Ob} {t : List Ob}, (H.set 9 (.obj 0 (.op H.length 0 [])))[i]? = some ob → (H.set 9 (.obj 0 (.op H.length 0 [])) ++ t)[i]? = some ob := fun {i ob t} h => by
    rw [List.getElem?_append_left (List.getElem?_eq_some_iff.1 h).1]; exact h
  obtain ⟨⟨a0, r0, ho, ha0, hb0⟩, hof⟩ := O7
  have O9 : ∀ (t : List Ob), Out (H.set 9 (.obj 0 (.op H.length 0 [])) ++ t) l (some j) := fun t => ⟨⟨a0, r0, low ho, ha0, hb0.keep fun i hi => by cases hi; obtain ⟨v, _, h⟩ := hb0; rw [low h, h]⟩, low hof⟩
  refine ⟨⟨low (by rw [List.getElem?_set_ne (by decide)]; exact hA), low (by rw [List.getElem?_set_ne (by decide)]; exact hB), low (by rw [List.getElem?_set_ne (by decide)]; exact hx), low (by rw [List.getElem?_set_ne (by decide)]; exact hy), low (by rw [List.getElem?_set_ne (by decide)]; exact hn), low (by rw [List.getElem?_set_self h8]), none, none, none, some j, ⟨⟨_, _, _, _, _, _, ?_, .inl rfl, .inl rfl, .inl rfl, ⟨rfl, rfl⟩, ⟨rfl, rfl⟩, ⟨rfl, rfl⟩⟩, ⟨H.length + 1, ?_⟩, by simp, by simp, by simp⟩, O9 _, by simp⟩, O9 _⟩
  · rw [List.getElem?_append_right (by simp)]; simp [pc]
  · rw [List.getElem?_append_right (by simp)]; simp
theorem closV {H : List Ob} {X Y : List Bool × List (List UInt8)} {s : TS} {k i : Nat} {a b : List UInt8} {K : TV → List Ob → Prop} (S : TSt H a b X Y s k) (hs : TSmall s i) (hi : i ≤ 4001) (hab : a.length + b.length ≤ 4000)
    (hk : ∀ H' k', TSt H' a b X Y ⟨[], [], [], s.out ++ (pieceOf s.o s.x s.y a b).1, s.n + (pieceOf s.o s.x s.y a b).2⟩ k' → (∃ j, Out H' (s.out ++ (pieceOf s.o s.x s.y a b).1) (some j)) → K (.tup []) H') :
    VCalls Try.prog 39 [.op 9 0 [], .op 4 0 [], .op 0 0 [], .op 1 0 [], .op 6 0 []] H K := by
  refine go_merge_Texts_1 (by simp) ?_
  have hc := S.hc
  have hA := S.ha
  have hB := S.hb
  have hn := S.hn
  simp -dsimp (disch := first | assumption | omega | (simp only [List.length_set, List.length_append, List.length_cons, List.length_nil]; done) | (simp only [List.length_set, List.length_append, List.length_cons, List.length_nil]; omega)) only [↓vmPre, vmPost, vmWrd, vmDat, eq_self, forall_const, Nat.reduceLT, Nat.reduceEqDiff, Nat.reduceSub, Nat.reduceMul, Nat.reduceMod, Nat.reduceDiv, Nat.reducePow, UInt8.reduceToNat, Int.reduceEq, Int.reduceLT, Int.reduceLE, ↓reduceIte, Nat.reduceEqDiff, Nat.reduceAdd, Int.reduceToNat, reduceCtorEq, Nat.reduceLeDiff, ↓u_merge_Texts_1, hc, hn, hA, hB]
  obtain ⟨_, _, hx, hy, _, _, J1, J2, J3, J, p, O, hJ⟩ := S
  have nA := p.ne hA (by intros; simp)
  have nB := p.ne hB (by intros; simp)
  have nx := p.ne hx (by intros; simp [sideT])
  have ny := p.ne hy (by intros; simp [sideT])
  have nn := p.ne hn (by intros; simp)
  have nc := p.ne hc (by intros; simp)
  have hpl := pieceOf_len s.o s.x s.y a b
  have hpn := pieceOf_n s.o s.x s.y a b
  obtain ⟨so, sx, sy, sout, sn⟩ := hs
  refine settleV p O hJ (by omega) (by omega) (by omega) ?_
  intro H' j O' st cj
  obtain ⟨a1, r1, a2, r2, a3, r3, hp, s1, s2, s3, b1, b2, b3⟩ := p.ex
  obtain ⟨a0, r0, ho, ha0, hb0⟩ := O.ex
  have keep : ∀ {i v : Nat} {x : TV}, H[i]? = some (.obj v x) → i ≠ 4 → i ≠ k → H'[i]? = some (.obj v x) := fun {i v x} h h1 h2 => st.at h fun y hy => by
    simp only [List.mem_cons, List.not_mem_nil, or_false] at hy
    rcases hy with rfl | rfl | rfl | rfl | rfl | rfl
    · intro e; exact h1 (Option.some.inj e).symm
    · exact hb0.nb h
    · intro e; exact h2 (Option.some.inj e).symm
    · exact b1.nb h
    · exact b2.nb h
    · exact b3.nb h
  have kA := keep hA (by decide) nA
  have kB := keep hB (by decide) nB
  have kx := keep hx (by decide) nx
  have ky := keep hy (by decide) ny
  have kn := keep hn (by decide) nn
  have kc := keep hc (by decide) nc
  have hl : 10 ≤ H'.length := (List.getElem?_eq_some_iff.1 kc).1
  by_cases hcf : (pieceOf s.o s.x s.y a b).2 = 1
  · have e : decide ((pieceOf s.o s.x s.y a b).2 = 1) = true := by simp [hcf]
    rw [e]
    simp -dsimp (disch := first | assumption | omega | (simp only [List.length_set, List.length_append, List.length_cons, List.length_nil]; done) | (simp only [List.length_set, List.length_append, List.length_cons, List.length_nil]; omega)) only [↓vmPre, vmPost, vmWrd, vmDat, eq_self, forall_const, Nat.reduceLT, Nat.reduceEqDiff, Nat.reduceSub, Nat.reduceMul, Nat.reduceMod, Nat.reduceDiv, Nat.reducePow, UInt8.reduceToNat, Int.reduceEq, Int.reduceLT, Int.reduceLE, ↓reduceIte, Nat.reduceEqDiff, Nat.reduceAdd, Int.reduceToNat, reduceCtorEq, Nat.reduceLeDiff, ↓u_merge_Texts_1, kc, kn]
    rw [hcf] at hk
    have hf := (TSt.fresh (a := a) (b := b) (X := X) (Y := Y) (H := H'.set 6 (.obj 0 (i64 ((s.n + 1 : Nat) : Int)))) (n := s.n + 1) (by simp -dsimp (disch := first | assumption | omega | (simp only [List.length_set, List.length_append, List.length_cons, List.length_nil]; done) | (simp only [List.length_set, List.length_append, List.length_cons, List.length_nil]; omega)) only [↓vmPre, vmPost, vmWrd, vmDat, eq_self, forall_const, Nat.reduceLT, Nat.reduceEqDiff, Nat.reduceSub, Nat.reduceMul, Nat.reduceMod, Nat.reduceDiv, Nat.reducePow, UInt8.reduceToNat, Int.reduceEq, Int.reduceLT, Int.reduceLE, ↓reduceIte, Nat.reduceEqDiff, Nat.reduceAdd, Int.reduceToNat, reduceCtorEq, Nat.reduceLeDiff, kA]) (by simp -dsimp (disch := first | assumption | omega | (simp only [List.length_set, List.length_append, List.length_cons, List.length_nil]; done) | (simp only [List.length_set, List.length_append, List.length_cons, List.length_nil]; omega)) only [↓vmPre, vmPost, vmWrd, vmDat, eq_self, forall_const, Nat.reduceLT, Nat.reduceEqDiff, Nat.reduceSub, Nat.reduceMul, Nat.reduceMod, Nat.reduceDiv, Nat.reducePow, UInt8.reduceToNat, Int.reduceEq, Int.reduceLT, Int.reduceLE, ↓reduceIte, Nat.reduceEqDiff, Nat.reduceAdd, Int.reduceToNat, reduceCtorEq, Nat.reduceLeDiff, kB]) (by simp -dsimp (disch := first | assumption | omega | (simp only [List.length_set, List.length_append, List.length_cons, List.length_nil]; done) | (simp only [List.length_set, List.length_append, List.length_cons, List.length_nil]; omega)) only [↓vmPre, vmPost, vmWrd, vmDat, eq_self, forall_const, Nat.reduceLT, Nat.reduceEqDiff, Nat.reduceSub, Nat.reduceMul, Nat.reduceMod, Nat.reduceDiv, Nat.reducePow, UInt8.reduceToNat, Int.reduceEq, Int.reduceLT, Int.reduceLE, ↓reduceIte, Nat.reduceEqDiff, Nat.reduceAdd, Int.reduceToNat, reduceCtorEq, Nat.reduceLeDiff, kx]) (by simp -dsimp (disch := first | assumption | omega | (simp only [List.length_set, List.length_append, List.length_cons, List.length_nil]; done) | (simp only [List.length_set, List.length_append, List.length_cons, List.length_nil]; omega)) only [↓vmPre, vmPost, vmWrd, vmDat, eq_self, forall_const, Nat.reduceLT, Nat.reduceEqDiff, Nat.reduceSub, Nat.reduceMul, Nat.reduceMod, Nat.reduceDiv, Nat.reducePow, UInt8.reduceToNat, Int.reduceEq, Int.reduceLT, Int.reduceLE, ↓reduceIte, Nat.reduceEqDiff, Nat.reduceAdd, Int.reduceToNat, reduceCtorEq, Nat.reduceLeDiff, ky]) (by simp -dsimp (disch := first | assumption | omega | (simp only [List.length_set, List.length_append, List.length_cons, List.length_nil]; done) | (simp only [List.length_set, List.length_append, List.length_cons, List.length_nil]; omega)) only [↓vmPre, vmPost, vmWrd, vmDat, eq_self, forall_const, Nat.reduceLT, Nat.reduceEqDiff, Nat.reduceSub, Nat.reduceMul, Nat.reduceMod, Nat.reduceDiv, Nat.reducePow, UInt8.reduceToNat, Int.reduceEq, Int.reduceLT, Int.reduceLE, ↓reduceIte, Nat.reduceEqDiff, Nat.reduceAdd, Int.reduceToNat, reduceCtorEq, Nat.reduceLeDiff, kn]) ⟨.op k 0 [], by simp -dsimp (disch := first | assumption | omega | (simp only [List.length_set, List.length_append, List.length_cons, List.length_nil]; done) | (simp only [List.length_set, List.length_append, List.length_cons, List.length_nil]; omega)) only [↓vmPre, vmPost, vmWrd, vmDat, eq_self, forall_const, Nat.reduceLT, Nat.reduceEqDiff, Nat.reduceSub, Nat.reduceMul, Nat.reduceMod, Nat.reduceDiv, Nat.reducePow, UInt8.reduceToNat, Int.reduceEq, Int.reduceLT, Int.reduceLE, ↓reduceIte, Nat.reduceEqDiff, Nat.reduceAdd, Int.reduceToNat, reduceCtorEq, Nat.reduceLeDiff, kc]⟩ (O'.set (v := 0) (x := i64 (s.n : Int)) kn (by decide)))
    have hk' := hk _ _ hf.1 ⟨_, hf.2⟩
    rw [List.length_set] at hk'
    exact hk'
  · have e : decide ((pieceOf s.o s.x s.y a b).2 = 1) = false := by simp [hcf]
    have e0 : (pieceOf s.o s.x s.y a b).2 = 0 := by omega
    rw [e]
    simp -dsimp (disch := first | assumption | omega | (simp only [List.length_set, List.length_append, List.length_cons, List.length_nil]; done) | (simp only [List.length_set, List.length_append, List.length_cons, List.length_nil]; omega)) only [↓vmPre, vmPost, vmWrd, vmDat, eq_self, forall_const, Nat.reduceLT, Nat.reduceEqDiff, Nat.reduceSub, Nat.reduceMul, Nat.reduceMod, Nat.reduceDiv, Nat.reducePow, UInt8.reduceToNat, Int.reduceEq, Int.reduceLT, Int.reduceLE, ↓reduceIte, Nat.reduceEqDiff, Nat.reduceAdd, Int.reduceToNat, reduceCtorEq, Nat.reduceLeDiff, ↓u_merge_Texts_1, kc, kn]
    rw [e0] at hk
    have hf := TSt.fresh kA kB kx ky kn ⟨_, kc⟩ O'
    exact hk _ _ hf.1 ⟨_, hf.2⟩
end Go.Proofs.Ytknphdcjopaaoaa
