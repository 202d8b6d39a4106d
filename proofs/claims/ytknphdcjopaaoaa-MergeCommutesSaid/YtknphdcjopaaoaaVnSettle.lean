/- merge: (*piece).settle. -/
import Derived.Test.YtknphdcjopaaoaaVnPiece
namespace Go.Proofs.Ytknphdcjopaaoaa
open Go.RowKit
set_option linter.unusedVariables false
set_option linter.unusedSimpArgs false
set_option linter.unusedSectionVars false
set_option maxRecDepth 100000 in
theorem liesP1 : lies 81 6 0 := ⟨by decide, by kernel_rfl⟩
set_option maxRecDepth 100000 in
theorem liesP2 : lies 81 6 2 := ⟨by decide, by kernel_rfl⟩
set_option maxRecDepth 100000 in
theorem liesP3 : lies 81 6 4 := ⟨by decide, by kernel_rfl⟩

/-- The object of a piece. -/
def pc (a1 r1 a2 r2 a3 r3 : TV) : TV := .agg [.agg [a1, r1], .agg [a2, r2], .agg [a3, r3]]
section
variable {a1 r1 a2 r2 a3 r3 b : TV} (w1 : width a1 = 1) (x1 : width r1 = 1) (w2 : width a2 = 1) (x2 : width r2 = 1) (w3 : width a3 = 1) (x3 : width r3 = 1)
include w1 x1 w2 x2 w3 x3
theorem pcG1 : getP [(0, 0), (1, 1)] (pc a1 r1 a2 r2 a3 r3) = some r1 := by simp [pc, getP_agg, getP_nil, widths, width, w1, x1, w2, x2]
theorem pcG2 : getP [(1, 2), (1, 1)] (pc a1 r1 a2 r2 a3 r3) = some r2 := by simp [pc, getP_agg, getP_nil, widths, width, w1, x1, w2, x2]
theorem pcG3 : getP [(2, 4), (1, 1)] (pc a1 r1 a2 r2 a3 r3) = some r3 := by simp [pc, getP_agg, getP_nil, widths, width, w1, x1, w2, x2, w3]
theorem pcS1 (hb : width b = 1) : setP [(0, 0), (1, 1)] (pc a1 r1 a2 r2 a3 r3) b = some (pc a1 b a2 r2 a3 r3) := by simp [pc, setP_agg, setP_nil, widths, width, w1, x1, w2, x2, w3, x3, hb]
theorem pcS2 (hb : width b = 1) : setP [(1, 2), (1, 1)] (pc a1 r1 a2 r2 a3 r3) b = some (pc a1 r1 a2 b a3 r3) := by simp [pc, setP_agg, setP_nil, widths, width, w1, x1, w2, x2, w3, x3, hb]
theorem pcS3 (hb : width b = 1) : setP [(2, 4), (1, 1)] (pc a1 r1 a2 r2 a3 r3) b = some (pc a1 r1 a2 r2 a3 b) := by simp [pc, setP_agg, setP_nil, widths, width, w1, x1, w2, x2, w3, x3, hb]
end
/-- A piece, at k; the blocks of its rows. -/
structure Piece (H : List Ob) (k : Nat) (o x y : List UInt8) (J1 J2 J3 : Option Nat) : Prop where
  ex : ∃ a1 r1 a2 r2 a3 r3 : TV, H[k]? = some (.obj 0 (pc a1 r1 a2 r2 a3 r3)) ∧ BldSelf k 0 [(0, 0)] a1 ∧ BldSelf k 0 [(1, 2)] a2 ∧ BldSelf k 0 [(2, 4)] a3 ∧ Buf H r1 o J1 ∧ Buf H r2 x J2 ∧ Buf H r3 y J3
  fact : ∃ q : Nat, H[q]? = some (Ob.fact k 0 81 6)
  n12 : ∀ j, J1 = some j → J2 ≠ some j
  n13 : ∀ j, J1 = some j → J3 ≠ some j
  n23 : ∀ j, J2 = some j → J3 ≠ some j
/-- The builder of all, at 4. -/
structure Out (H : List Ob) (l : List UInt8) (J : Option Nat) : Prop where
  ex : ∃ a r : TV, H[4]? = some (.obj 0 (.agg [a, r])) ∧ BldSelf 4 0 [] a ∧ Buf H r l J
  fact : H[5]? = some (.fact 4 0 78 2)
/-- What stays, but for some. -/
def Stay (H H' : List Ob) (xs : List (Option Nat)) : Prop := H.length ≤ H'.length ∧ ∀ i, i < H.length → (∀ x ∈ xs, x ≠ some i) → H'[i]? = H[i]?

theorem outV {H : List Ob} {l s : List UInt8} {J : Option Nat} {K : TV → List Ob → Prop} (O : Out H l J) (hlen : l.length + s.length ≤ 140737488355328)
    (hk : ∀ H' j, Out H' (l ++ s) (some j) → Stay H H' [some 4, J] → (J = some j ∨ J = none ∧ j = H.length) → K (.tup [i64 (s.length : Int), .val .nilIface]) H') :
    VCalls Try.prog 41 [.op 4 0 [], ts s] H K := by
  obtain ⟨⟨a, r, h2, ha, hb⟩, hf⟩ := O
  have wa := width_self ha
  refine writeAny (q := 5) h2 rfl rfl ha hb hf liesB hlen ?_
  intro H' x' r' j hs ho hb' hfr hl hJ
  have hx : x' = .agg [.op 4 0 [], r'] := by
    rw [setP_nil, if_pos (by simp [width, widths, hb'.wd, wa, hb.wd])] at hs
    exact (Option.some.inj hs).symm
  subst hx
  have st : Stay H H' [some 4, J] := ⟨hl, fun i hi h => hfr i hi (fun e => h (some 4) (by simp) (by rw [e])) (h J (by simp))⟩
  have h3 : H'[5]? = some (.fact 4 0 78 2) := by
    rw [st.2 5 (List.getElem?_eq_some_iff.1 hf).1 (fun x hx => ?_)]
    · exact hf
    · rcases List.mem_cons.1 hx with rfl | hx
      · simp
      · obtain rfl := List.mem_singleton.1 hx
        rintro rfl
        obtain ⟨v, _, h⟩ := hb
        rw [hf] at h; cases h
  exact hk H' j ⟨⟨_, _, ho, .inr rfl, hb'⟩, h3⟩ st hJ
theorem Buf.lt {H : List Ob} {r : TV} {l : List UInt8} {j : Nat} (h : Buf H r l (some j)) : j < H.length := by
  obtain ⟨v, _, h⟩ := h; exact (List.getElem?_eq_some_iff.1 h).1
theorem Buf.keep {H H' : List Ob} {r : TV} {l : List UInt8} {J : Option Nat} (h : Buf H r l J) (hs : ∀ j, J = some j → H'[j]? = H[j]?) : Buf H' r l J := by
  cases J with
  | none => exact h
  | some j => obtain ⟨v, e, h⟩ := h; exact ⟨v, e, (hs j rfl).trans h⟩
theorem Buf.ne {H : List Ob} {r : TV} {l : List UInt8} {J : Option Nat} {k v : Nat} {x : TV} (h : Buf H r l J) (hk : H[k]? = some (.obj v x)) : ∀ j, J = some j → j ≠ k := by
  rintro j rfl rfl
  obtain ⟨v, _, h⟩ := h
  rw [hk] at h; cases h
theorem settleV {H : List Ob} {k : Nat} {o x y l a b : List UInt8} {J1 J2 J3 J : Option Nat} {K : TV → List Ob → Prop} (p : Piece H k o x y J1 J2 J3) (O : Out H l J) (hJ : ∀ j, J = some j → J1 ≠ some j ∧ J2 ≠ some j ∧ J3 ≠ some j)
    (hol : o.length ≤ 140737488255328) (hlen : l.length + x.length + y.length ≤ 140737488255328) (hab : a.length + b.length ≤ 10000)
    (hk : ∀ H' j, Out H' (l ++ (pieceOf o x y a b).1) (some j) → Stay H H' [some 4, J, some k, J1, J2, J3] → (J = some j ∨ J = none ∧ H.length ≤ j) → K (tb (decide ((pieceOf o x y a b).2 = 1))) H') :
    VCalls Try.prog 40 [.op k 0 [], .op 4 0 [], ts a, ts b] H K := by
  obtain ⟨⟨a1, r1, a2, r2, a3, r3, hp, s1, s2, s3, b1, b2, b3⟩, ⟨q, hq⟩, n12, n13, n23⟩ := p
  have w1 := width_self s1
  have w2 := width_self s2
  have w3 := width_self s3
  have x1 := b1.wd
  have x2 := b2.wd
  have x3 := b3.wd
  refine go_merge_piece_settle (by simp) ?_
  rw [u_merge_piece_settle_e]
  refine ownT_any (p0 := []) (p := [(0, 0), (1, 1)]) rfl hp (pcG1 w1 x1 w2 x2 w3 x3) b1 (fun b wb => ⟨_, pcS1 w1 x1 w2 x2 w3 x3 wb⟩) (pcS1 w1 x1 w2 x2 w3 x3 x1) ?_
  intro H1 z1 j1 v1 t1 hp1 hj1 f1 l1 c1
  rw [List.nil_append, pcS1 w1 x1 w2 x2 w3 x3 rfl] at t1
  obtain rfl := Option.some.inj t1
  have q2 : Buf H1 r2 x J2 := b2.keep fun j hj => by subst hj; exact f1 j b2.lt (b2.ne hp j rfl)
  refine ownT_any (p0 := []) (p := [(1, 2), (1, 1)]) rfl hp1 (pcG2 w1 rfl w2 x2 w3 x3) q2 (fun b wb => ⟨_, pcS2 w1 rfl w2 x2 w3 x3 wb⟩) (pcS2 w1 rfl w2 x2 w3 x3 x2) ?_
  intro H2 z2 j2 v2 t2 hp2 hj2 f2 l2 c2
  rw [List.nil_append, pcS2 w1 rfl w2 x2 w3 x3 rfl] at t2
  obtain rfl := Option.some.inj t2
  have q3 : Buf H2 r3 y J3 := b3.keep fun j hj => by
    subst hj
    have := b3.lt
    rw [f2 j (by omega) (b3.ne hp j rfl), f1 j b3.lt (b3.ne hp j rfl)]
  refine ownT_any (p0 := []) (p := [(2, 4), (1, 1)]) rfl hp2 (pcG3 w1 rfl w2 rfl w3 x3) q3 (fun b wb => ⟨_, pcS3 w1 rfl w2 rfl w3 x3 wb⟩) (pcS3 w1 rfl w2 rfl w3 x3 x3) ?_
  intro H3 z3 j3 v3 t3 hp3 hj3 f3 l3 c3
  rw [List.nil_append, pcS3 w1 rfl w2 rfl w3 x3 rfl] at t3
  obtain rfl := Option.some.inj t3
  have hkl : k < H.length := (List.getElem?_eq_some_iff.1 hp).1
  have m1 : j1 < H1.length := (List.getElem?_eq_some_iff.1 hj1).1
  have m2 : j2 < H2.length := (List.getElem?_eq_some_iff.1 hj2).1
  have m3 : j3 < H3.length := (List.getElem?_eq_some_iff.1 hj3).1
  have k1 : j1 ≠ k := fun e => by subst e; rw [hj1] at hp1; cases hp1
  have k2 : j2 ≠ k := fun e => by subst e; rw [hj2] at hp2; cases hp2
  have k3 : j3 ≠ k := fun e => by subst e; rw [hj3] at hp3; cases hp3
  have u1 : ∀ j, J1 = some j → j < H.length := fun j e => by subst e; exact b1.lt
  have u2 : ∀ j, J2 = some j → j < H.length := fun j e => by subst e; exact b2.lt
  have u3 : ∀ j, J3 = some j → j < H.length := fun j e => by subst e; exact b3.lt
  have d12 : j1 ≠ j2 := by
    intro e; subst e
    rcases c2 with e2 | ⟨_, e2⟩
    · rcases c1 with e1 | ⟨_, e1⟩
      · exact n12 _ e1 e2
      · have := u2 _ e2; omega
    · omega
  have d13 : j1 ≠ j3 := by
    intro e; subst e
    rcases c3 with e2 | ⟨_, e2⟩
    · rcases c1 with e1 | ⟨_, e1⟩
      · exact n13 _ e1 e2
      · have := u3 _ e2; omega
    · omega
  have d23 : j2 ≠ j3 := by
    intro e; subst e
    rcases c3 with e2 | ⟨_, e2⟩
    · rcases c2 with e1 | ⟨_, e1⟩
      · exact n23 _ e1 e2
      · have := u3 _ e2; omega
    · omega
  have g2 : H3[j2]? = some (.bld v2 5 x) := (f3 j2 m2 k2).trans hj2
  have g1 : H3[j1]? = some (.bld v1 5 o) := (f3 j1 (by omega) k1).trans ((f2 j1 m1 k1).trans hj1)
  have hl3 : H.length ≤ H3.length := by omega
  have keep : ∀ i, i < H.length → i ≠ k → H3[i]? = H[i]? := fun i hi hn => by rw [f3 i (by omega) hn, f2 i (by omega) hn, f1 i hi hn]
  clear hp1 hp2 hj1 hj2 f1 f2 f3
  have h4 : ∀ i, i ≠ j1 → i ≠ j2 → i ≠ j3 → (((H3.set j1 (.gone v1)).set j2 (.gone v2)).set j3 (.gone v3))[i]? = H3[i]? := fun i n1 n2 n3 => by
    rw [List.getElem?_set_ne (Ne.symm n3), List.getElem?_set_ne (Ne.symm n2), List.getElem?_set_ne (Ne.symm n1)]
  have hlen4 : (((H3.set j1 (.gone v1)).set j2 (.gone v2)).set j3 (.gone v3)).length = H3.length := by simp
  have jne : ∀ i ob, H3[i]? = some ob → (∀ v t l, ob ≠ .bld v t l) → i ≠ j1 ∧ i ≠ j2 ∧ i ≠ j3 := fun i ob h hn => by
    refine ⟨?_, ?_, ?_⟩ <;> rintro rfl
    · rw [g1] at h; exact hn _ _ _ (Option.some.inj h).symm
    · rw [g2] at h; exact hn _ _ _ (Option.some.inj h).symm
    · rw [hj3] at h; exact hn _ _ _ (Option.some.inj h).symm
  have O4 : Out (((H3.set j1 (.gone v1)).set j2 (.gone v2)).set j3 (.gone v3)) l J := by
    obtain ⟨⟨a0, r0, h2, ha0, hb0⟩, hf⟩ := O
    have hk2 : 4 ≠ k := fun e => by subst e; rw [hp] at h2; simp [pc] at h2
    have hk3 : 5 ≠ k := fun e => by subst e; rw [hp] at hf; cases hf
    have h2' := (keep 4 (List.getElem?_eq_some_iff.1 h2).1 hk2).trans h2
    have hf' := (keep 5 (List.getElem?_eq_some_iff.1 hf).1 hk3).trans hf
    obtain ⟨e1, e2, e3⟩ := jne 4 _ h2' (by intros; simp)
    obtain ⟨e4, e5, e6⟩ := jne 5 _ hf' (by intros; simp)
    refine ⟨⟨a0, r0, (h4 4 e1 e2 e3).trans h2', ha0, hb0.keep fun j hj => ?_⟩, (h4 5 e4 e5 e6).trans hf'⟩
    subst hj
    obtain ⟨i1, i2, i3⟩ := hJ j rfl
    have hjl := hb0.lt
    rw [h4 j, keep j hjl (hb0.ne hp j rfl)]
    · rintro rfl
      rcases c1 with e | ⟨_, e⟩
      · exact i1 e
      · omega
    · rintro rfl
      rcases c2 with e | ⟨_, e⟩
      · exact i2 e
      · omega
    · rintro rfl
      rcases c3 with e | ⟨_, e⟩
      · exact i3 e
      · omega
  have S4 : Stay H (((H3.set j1 (.gone v1)).set j2 (.gone v2)).set j3 (.gone v3)) [some 4, J, some k, J1, J2, J3] := by
    refine ⟨by rw [hlen4]; exact hl3, fun i hi hn => ?_⟩
    have nk : i ≠ k := fun e => hn (some k) (by simp) (by rw [e])
    rw [h4 i, keep i hi nk]
    · rintro rfl
      rcases c1 with e | ⟨_, e⟩
      · exact hn J1 (by simp) e
      · omega
    · rintro rfl
      rcases c2 with e | ⟨_, e⟩
      · exact hn J2 (by simp) e
      · omega
    · rintro rfl
      rcases c3 with e | ⟨_, e⟩
      · exact hn J3 (by simp) e
      · omega
  have fin : ∀ (s : List UInt8) (KK : TV → List Ob → Prop), l.length + s.length ≤ 140737488355328 → (∀ H' j, Out H' (l ++ s) (some j) → Stay H H' [some 4, J, some k, J1, J2, J3] → (J = some j ∨ J = none ∧ H.length ≤ j) → KK (.tup [i64 (s.length : Int), .val .nilIface]) H') →
      VCalls Try.prog 41 [.op 4 0 [], ts s] (((H3.set j1 (.gone v1)).set j2 (.gone v2)).set j3 (.gone v3)) KK := by
    intro s KK hs hkk
    refine outV O4 hs ?_
    intro H' j O' S' cj
    refine hkk H' j O' ⟨Nat.le_trans S4.1 S'.1, fun i hi hn => ?_⟩ (cj.imp id fun ⟨e1, e2⟩ => ⟨e1, by omega⟩)
    rw [S'.2 i (by have := S4.1; omega) (fun x hx => hn x (by simp at hx ⊢; rcases hx with rfl | rfl <;> simp)), S4.2 i hi hn]
  clear h4 hlen4 jne O4 S4 O keep c1 c2 c3 n12 n13 n23 u1 u2 u3
  have hb := bstr_is
  have el1 := endl_len x
  have el2 := endl_len y
  unfold pc at hp3
  simp -dsimp (disch := first | assumption | omega | (simp only [List.length_set, List.length_append, List.length_cons, List.length_nil]; done) | (simp only [List.length_set, List.length_append, List.length_cons, List.length_nil]; omega)) only [↓vmPre, vmPost, vmWrd, vmDat, eq_self, forall_const, Nat.reduceLT, Nat.reduceEqDiff, Nat.reduceSub, Nat.reduceMul, Nat.reduceMod, Nat.reduceDiv, Nat.reducePow, UInt8.reduceToNat, Int.reduceEq, Int.reduceLT, Int.reduceLE, ↓reduceIte, Nat.reduceEqDiff, Nat.reduceAdd, Int.reduceToNat, reduceCtorEq, Nat.reduceLeDiff, ↓u_merge_piece_settle, hp3, g1, g2, hj3, w1, w2, w3, hb, k1, k2, k3, d12, d13, d23]
  refine vif_cases (fun h1 => ?_) (fun h1 => ?_)
  · have e : pieceOf o x y a b = (x, 0) := by
      subst h1; unfold pieceOf
      by_cases h : x = o
      · rw [if_pos h]
      · rw [if_neg h, if_neg h, if_pos rfl]
    rw [e] at hk
    simp -dsimp (disch := first | assumption | omega | (simp only [List.length_set, List.length_append, List.length_cons, List.length_nil]; done) | (simp only [List.length_set, List.length_append, List.length_cons, List.length_nil]; omega)) only [↓vmPre, vmPost, vmWrd, vmDat, eq_self, forall_const, Nat.reduceLT, Nat.reduceEqDiff, Nat.reduceSub, Nat.reduceMul, Nat.reduceMod, Nat.reduceDiv, Nat.reducePow, UInt8.reduceToNat, Int.reduceEq, Int.reduceLT, Int.reduceLE, ↓reduceIte, Nat.reduceEqDiff, Nat.reduceAdd, Int.reduceToNat, reduceCtorEq, Nat.reduceLeDiff, ↓u_merge_piece_settle]
    refine fin x _ (by omega) fun H' j O' S' cj => ?_
    simp -dsimp (disch := first | assumption | omega | (simp only [List.length_set, List.length_append, List.length_cons, List.length_nil]; done) | (simp only [List.length_set, List.length_append, List.length_cons, List.length_nil]; omega)) only [↓vmPre, vmPost, vmWrd, vmDat, eq_self, forall_const, Nat.reduceLT, Nat.reduceEqDiff, Nat.reduceSub, Nat.reduceMul, Nat.reduceMod, Nat.reduceDiv, Nat.reducePow, UInt8.reduceToNat, Int.reduceEq, Int.reduceLT, Int.reduceLE, ↓reduceIte, Nat.reduceEqDiff, Nat.reduceAdd, Int.reduceToNat, reduceCtorEq, Nat.reduceLeDiff, ↓u_merge_piece_settle]
    exact hk H' j O' S' cj
  simp -dsimp (disch := first | assumption | omega | (simp only [List.length_set, List.length_append, List.length_cons, List.length_nil]; done) | (simp only [List.length_set, List.length_append, List.length_cons, List.length_nil]; omega)) only [↓vmPre, vmPost, vmWrd, vmDat, eq_self, forall_const, Nat.reduceLT, Nat.reduceEqDiff, Nat.reduceSub, Nat.reduceMul, Nat.reduceMod, Nat.reduceDiv, Nat.reducePow, UInt8.reduceToNat, Int.reduceEq, Int.reduceLT, Int.reduceLE, ↓reduceIte, Nat.reduceEqDiff, Nat.reduceAdd, Int.reduceToNat, reduceCtorEq, Nat.reduceLeDiff, ↓u_merge_piece_settle]
  refine vif_cases (fun h2 => ?_) (fun h2 => ?_)
  · have e : pieceOf o x y a b = (y, 0) := by
      subst h2; unfold pieceOf; rw [if_neg h1, if_pos rfl]
    rw [e] at hk
    simp -dsimp (disch := first | assumption | omega | (simp only [List.length_set, List.length_append, List.length_cons, List.length_nil]; done) | (simp only [List.length_set, List.length_append, List.length_cons, List.length_nil]; omega)) only [↓vmPre, vmPost, vmWrd, vmDat, eq_self, forall_const, Nat.reduceLT, Nat.reduceEqDiff, Nat.reduceSub, Nat.reduceMul, Nat.reduceMod, Nat.reduceDiv, Nat.reducePow, UInt8.reduceToNat, Int.reduceEq, Int.reduceLT, Int.reduceLE, ↓reduceIte, Nat.reduceEqDiff, Nat.reduceAdd, Int.reduceToNat, reduceCtorEq, Nat.reduceLeDiff, ↓u_merge_piece_settle]
    refine fin y _ (by omega) fun H' j O' S' cj => ?_
    simp -dsimp (disch := first | assumption | omega | (simp only [List.length_set, List.length_append, List.length_cons, List.length_nil]; done) | (simp only [List.length_set, List.length_append, List.length_cons, List.length_nil]; omega)) only [↓vmPre, vmPost, vmWrd, vmDat, eq_self, forall_const, Nat.reduceLT, Nat.reduceEqDiff, Nat.reduceSub, Nat.reduceMul, Nat.reduceMod, Nat.reduceDiv, Nat.reducePow, UInt8.reduceToNat, Int.reduceEq, Int.reduceLT, Int.reduceLE, ↓reduceIte, Nat.reduceEqDiff, Nat.reduceAdd, Int.reduceToNat, reduceCtorEq, Nat.reduceLeDiff, ↓u_merge_piece_settle]
    exact hk H' j O' S' cj
  simp -dsimp (disch := first | assumption | omega | (simp only [List.length_set, List.length_append, List.length_cons, List.length_nil]; done) | (simp only [List.length_set, List.length_append, List.length_cons, List.length_nil]; omega)) only [↓vmPre, vmPost, vmWrd, vmDat, eq_self, forall_const, Nat.reduceLT, Nat.reduceEqDiff, Nat.reduceSub, Nat.reduceMul, Nat.reduceMod, Nat.reduceDiv, Nat.reducePow, UInt8.reduceToNat, Int.reduceEq, Int.reduceLT, Int.reduceLE, ↓reduceIte, Nat.reduceEqDiff, Nat.reduceAdd, Int.reduceToNat, reduceCtorEq, Nat.reduceLeDiff, ↓u_merge_piece_settle]
  refine vif_cases (fun h3 => ?_) (fun h3 => ?_)
  · have e : pieceOf o x y a b = (x, 0) := by
      unfold pieceOf; rw [if_pos h3]
    rw [e] at hk
    simp -dsimp (disch := first | assumption | omega | (simp only [List.length_set, List.length_append, List.length_cons, List.length_nil]; done) | (simp only [List.length_set, List.length_append, List.length_cons, List.length_nil]; omega)) only [↓vmPre, vmPost, vmWrd, vmDat, eq_self, forall_const, Nat.reduceLT, Nat.reduceEqDiff, Nat.reduceSub, Nat.reduceMul, Nat.reduceMod, Nat.reduceDiv, Nat.reducePow, UInt8.reduceToNat, Int.reduceEq, Int.reduceLT, Int.reduceLE, ↓reduceIte, Nat.reduceEqDiff, Nat.reduceAdd, Int.reduceToNat, reduceCtorEq, Nat.reduceLeDiff, ↓u_merge_piece_settle]
    refine fin x _ (by omega) fun H' j O' S' cj => ?_
    simp -dsimp (disch := first | assumption | omega | (simp only [List.length_set, List.length_append, List.length_cons, List.length_nil]; done) | (simp only [List.length_set, List.length_append, List.length_cons, List.length_nil]; omega)) only [↓vmPre, vmPost, vmWrd, vmDat, eq_self, forall_const, Nat.reduceLT, Nat.reduceEqDiff, Nat.reduceSub, Nat.reduceMul, Nat.reduceMod, Nat.reduceDiv, Nat.reducePow, UInt8.reduceToNat, Int.reduceEq, Int.reduceLT, Int.reduceLE, ↓reduceIte, Nat.reduceEqDiff, Nat.reduceAdd, Int.reduceToNat, reduceCtorEq, Nat.reduceLeDiff, ↓u_merge_piece_settle]
    exact hk H' j O' S' cj
  have e : pieceOf o x y a b = ([60, 60, 60, 60, 60, 60, 60, 32] ++ a ++ [10] ++ endl x ++ [61, 61, 61, 61, 61, 61, 61, 10] ++ endl y ++ [62, 62, 62, 62, 62, 62, 62, 32] ++ b ++ [10], 1) := by
    unfold pieceOf; rw [if_neg h3, if_neg (fun h => h2 h.symm), if_neg (fun h => h1 h.symm)]
  rw [e] at hk
  simp -dsimp (disch := first | assumption | omega | (simp only [List.length_set, List.length_append, List.length_cons, List.length_nil]; done) | (simp only [List.length_set, List.length_append, List.length_cons, List.length_nil]; omega)) only [↓vmPre, vmPost, vmWrd, vmDat, eq_self, forall_const, Nat.reduceLT, Nat.reduceEqDiff, Nat.reduceSub, Nat.reduceMul, Nat.reduceMod, Nat.reduceDiv, Nat.reducePow, UInt8.reduceToNat, Int.reduceEq, Int.reduceLT, Int.reduceLE, ↓reduceIte, Nat.reduceEqDiff, Nat.reduceAdd, Int.reduceToNat, reduceCtorEq, Nat.reduceLeDiff, ↓u_merge_piece_settle, s_cat]
  refine (endedV x (by omega)).calls rfl ?_
  rintro _ rfl
  simp -dsimp (disch := first | assumption | omega | (simp only [List.length_set, List.length_append, List.length_cons, List.length_nil]; done) | (simp only [List.length_set, List.length_append, List.length_cons, List.length_nil]; omega)) only [↓vmPre, vmPost, vmWrd, vmDat, eq_self, forall_const, Nat.reduceLT, Nat.reduceEqDiff, Nat.reduceSub, Nat.reduceMul, Nat.reduceMod, Nat.reduceDiv, Nat.reducePow, UInt8.reduceToNat, Int.reduceEq, Int.reduceLT, Int.reduceLE, ↓reduceIte, Nat.reduceEqDiff, Nat.reduceAdd, Int.reduceToNat, reduceCtorEq, Nat.reduceLeDiff, ↓u_merge_piece_settle, s_cat]
  refine (endedV y (by omega)).calls rfl ?_
  rintro _ rfl
  simp -dsimp (disch := first | assumption | omega | (simp only [List.length_set, List.length_append, List.length_cons, List.length_nil]; done) | (simp only [List.length_set, List.length_append, List.length_cons, List.length_nil]; omega)) only [↓vmPre, vmPost, vmWrd, vmDat, eq_self, forall_const, Nat.reduceLT, Nat.reduceEqDiff, Nat.reduceSub, Nat.reduceMul, Nat.reduceMod, Nat.reduceDiv, Nat.reducePow, UInt8.reduceToNat, Int.reduceEq, Int.reduceLT, Int.reduceLE, ↓reduceIte, Nat.reduceEqDiff, Nat.reduceAdd, Int.reduceToNat, reduceCtorEq, Nat.reduceLeDiff, ↓u_merge_piece_settle, s_cat]
  refine fin _ _ (by simp; omega) fun H' j O' S' cj => ?_
  simp -dsimp (disch := first | assumption | omega | (simp only [List.length_set, List.length_append, List.length_cons, List.length_nil]; done) | (simp only [List.length_set, List.length_append, List.length_cons, List.length_nil]; omega)) only [↓vmPre, vmPost, vmWrd, vmDat, eq_self, forall_const, Nat.reduceLT, Nat.reduceEqDiff, Nat.reduceSub, Nat.reduceMul, Nat.reduceMod, Nat.reduceDiv, Nat.reducePow, UInt8.reduceToNat, Int.reduceEq, Int.reduceLT, Int.reduceLE, ↓reduceIte, Nat.reduceEqDiff, Nat.reduceAdd, Int.reduceToNat, reduceCtorEq, Nat.reduceLeDiff, ↓u_merge_piece_settle]
  exact hk H' j O' S' cj
end Go.Proofs.Ytknphdcjopaaoaa
