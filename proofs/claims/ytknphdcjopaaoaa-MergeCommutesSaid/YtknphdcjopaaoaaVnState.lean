/- merge.Texts: its state. -/
import Derived.Test.YtknphdcjopaaoaaVnSettle
namespace Go.Proofs.Ytknphdcjopaaoaa
open Go.RowKit
set_option linter.unusedVariables false
set_option linter.unusedSimpArgs false
set_option linter.unusedSectionVars false

/-- What is under way: a piece of three texts, all so far, how many conflicts. -/
structure TS where
  o : List UInt8
  x : List UInt8
  y : List UInt8
  out : List UInt8
  n : Nat
def sideT (X : List Bool × List (List UInt8)) : TV := .agg [.sl 1 (X.1.map tb), slS X.2]
structure TSt (H : List Ob) (a b : List UInt8) (X Y : List Bool × List (List UInt8)) (s : TS) (k : Nat) : Prop where
  ha : H[0]? = some (.obj 0 (ts a))
  hb : H[1]? = some (.obj 0 (ts b))
  hx : H[2]? = some (.obj 0 (sideT X))
  hy : H[3]? = some (.obj 0 (sideT Y))
  hn : H[6]? = some (.obj 0 (i64 (s.n : Int)))
  hc : H[9]? = some (.obj 0 (.op k 0 []))
  ex : ∃ J1 J2 J3 J : Option Nat, Piece H k s.o s.x s.y J1 J2 J3 ∧ Out H s.out J ∧ ∀ j, J = some j → J1 ≠ some j ∧ J2 ≠ some j ∧ J3 ≠ some j
section
variable {a1 r1 a2 r2 a3 r3 b c : TV} (w1 : width a1 = 1) (x1 : width r1 = 1) (w2 : width a2 = 1) (x2 : width r2 = 1) (w3 : width a3 = 1) (x3 : width r3 = 1)
include w1 x1 w2 x2 w3 x3
theorem pcA1 : aggP [(0, 0)] (pc a1 r1 a2 r2 a3 r3) = true := by simp [pc, aggP, widths, width, w1, x1, w2, x2]
theorem pcA2 : aggP [(1, 2)] (pc a1 r1 a2 r2 a3 r3) = true := by simp [pc, aggP, widths, width, w1, x1, w2, x2]
theorem pcA3 : aggP [(2, 4)] (pc a1 r1 a2 r2 a3 r3) = true := by simp [pc, aggP, widths, width, w1, x1, w2, x2]
theorem pcF1 : getP [(0, 0)] (pc a1 r1 a2 r2 a3 r3) = some (.agg [a1, r1]) := by simp [pc, getP_agg, getP_nil, widths, width, w1, x1, w2, x2]
theorem pcF2 : getP [(1, 2)] (pc a1 r1 a2 r2 a3 r3) = some (.agg [a2, r2]) := by simp [pc, getP_agg, getP_nil, widths, width, w1, x1, w2, x2]
theorem pcF3 : getP [(2, 4)] (pc a1 r1 a2 r2 a3 r3) = some (.agg [a3, r3]) := by simp [pc, getP_agg, getP_nil, widths, width, w1, x1, w2, x2]
theorem pcT1 (hb : width b = 1) (hc : width c = 1) : setP [(0, 0)] (pc a1 r1 a2 r2 a3 r3) (.agg [b, c]) = some (pc b c a2 r2 a3 r3) := by simp [pc, setP_agg, setP_nil, widths, width, w1, x1, w2, x2, w3, x3, hb, hc]
theorem pcT2 (hb : width b = 1) (hc : width c = 1) : setP [(1, 2)] (pc a1 r1 a2 r2 a3 r3) (.agg [b, c]) = some (pc a1 r1 b c a3 r3) := by simp [pc, setP_agg, setP_nil, widths, width, w1, x1, w2, x2, w3, x3, hb, hc]
theorem pcT3 (hb : width b = 1) (hc : width c = 1) : setP [(2, 4)] (pc a1 r1 a2 r2 a3 r3) (.agg [b, c]) = some (pc a1 r1 a2 r2 b c) := by simp [pc, setP_agg, setP_nil, widths, width, w1, x1, w2, x2, w3, x3, hb, hc]
end
theorem Stay.at {H H' : List Ob} {xs : List (Option Nat)} (h : Stay H H' xs) {i : Nat} {o : Ob} (ho : H[i]? = some o) (hn : ∀ x ∈ xs, x ≠ some i) : H'[i]? = some o := by
  rw [h.2 i (List.getElem?_eq_some_iff.1 ho).1 hn]; exact ho
/-- The piece is none of the others. -/
theorem Piece.ne {H : List Ob} {k : Nat} {o x y : List UInt8} {J1 J2 J3 : Option Nat} (p : Piece H k o x y J1 J2 J3) {i : Nat} {ob : Ob} (h : H[i]? = some ob) (hn : ∀ a b c, ob ≠ .obj 0 (.agg [a, b, c])) : i ≠ k := by
  rintro rfl
  obtain ⟨a1, r1, a2, r2, a3, r3, hp, _⟩ := p.ex
  rw [hp] at h
  exact hn _ _ _ (Option.some.inj h).symm
theorem Buf.nb {H : List Ob} {r : TV} {l : List UInt8} {J : Option Nat} (h : Buf H r l J) {i v : Nat} {x : TV} (hi : H[i]? = some (.obj v x)) : J ≠ some i := by
  rintro rfl; exact h.ne hi i rfl rfl
theorem Buf.nf {H : List Ob} {r : TV} {l : List UInt8} {J : Option Nat} (h : Buf H r l J) {i k v m : Nat} {T : TypeId} (hi : H[i]? = some (.fact k v T m)) : J ≠ some i := by
  rintro rfl
  obtain ⟨v, _, h⟩ := h
  rw [hi] at h; cases h

theorem TSt.wO {H : List Ob} {X Y : List Bool × List (List UInt8)} {s : TS} {k : Nat} {a b t : List UInt8} {K : TV → List Ob → Prop} (S : TSt H a b X Y s k) (hlen : s.o.length + t.length ≤ 140737488355328)
    (hk : ∀ H', TSt H' a b X Y { s with o := s.o ++ t } k → K (.tup [i64 (t.length : Int), .val .nilIface]) H') :
    VCalls Try.prog 41 [.op k 0 [(0, 0)], ts t] H K := by
  obtain ⟨hA, hB, hx, hy, hn, hc, J1, J2, J3, J, p, ⟨⟨a0, r0, ho, ha0, hb0⟩, hof⟩, hJ⟩ := S
  have nA := p.ne hA (by intros; simp)
  have nB := p.ne hB (by intros; simp)
  have nx := p.ne hx (by intros; simp [sideT])
  have ny := p.ne hy (by intros; simp [sideT])
  have nn := p.ne hn (by intros; simp)
  have nc := p.ne hc (by intros; simp)
  have no := p.ne ho (by intros; simp)
  obtain ⟨⟨a1, r1, a2, r2, a3, r3, hp, s1, s2, s3, b1, b2, b3⟩, ⟨q, hq⟩, n12, n13, n23⟩ := p
  have nq : q ≠ k := fun e => by subst e; rw [hp] at hq; cases hq
  have w1 := width_self s1
  have w2 := width_self s2
  have w3 := width_self s3
  have x1 := b1.wd
  have x2 := b2.wd
  have x3 := b3.wd
  refine writeAny (q := q) hp (pcA1 w1 x1 w2 x2 w3 x3) (pcF1 w1 x1 w2 x2 w3 x3) s1 b1 hq liesP1 hlen ?_
  intro H' x' r' j hs hp' hb' hfr hl hj
  rw [pcT1 w1 x1 w2 x2 w3 x3 rfl hb'.wd] at hs
  obtain rfl := Option.some.inj hs
  have keep : ∀ {i : Nat} {ob : Ob}, H[i]? = some ob → i ≠ k → J1 ≠ some i → H'[i]? = some ob := fun {i ob} h h1 h2 => (hfr i (List.getElem?_eq_some_iff.1 h).1 h1 h2).trans h
  have fr : ∀ {r : TV} {l : List UInt8} {Jx : Option Nat}, Buf H r l Jx → (∀ i, Jx = some i → J1 ≠ some i) → Buf H' r l Jx ∧ ∀ i, Jx = some i → i ≠ j := fun {r l Jx} hb hne => by
    refine ⟨hb.keep fun i hi => ?_, fun i hi e => ?_⟩
    · subst hi; exact hfr i hb.lt (hb.ne hp i rfl) (hne i rfl)
    · subst hi; subst e
      rcases hj with e | ⟨_, e⟩
      · exact hne i rfl e
      · have := hb.lt; omega
  obtain ⟨f0, g0⟩ := fr hb0 (fun i hi => (hJ i hi).1)
  obtain ⟨f2, g2⟩ := fr b2 (fun i hi e => n12 i e hi)
  obtain ⟨f3, g3⟩ := fr b3 (fun i hi e => n13 i e hi)
  refine hk H' ⟨keep hA nA (b1.nb hA), keep hB nB (b1.nb hB), keep hx nx (b1.nb hx), keep hy ny (b1.nb hy), keep hn nn (b1.nb hn), keep hc nc (b1.nb hc), some j, J2, J3, J, ⟨⟨_, _, _, _, _, _, hp', .inr rfl, s2, s3, hb', f2, f3⟩, ⟨q, keep hq nq (b1.nf hq)⟩, ?_, ?_, n23⟩, ⟨⟨_, _, keep ho no (b1.nb ho), ha0, f0⟩, keep hof (fun e => by subst e; rw [hp] at hof; cases hof) (b1.nf hof)⟩, ?_⟩
  · intro i hi h; cases hi; exact g2 _ h rfl
  · intro i hi h; cases hi; exact g3 _ h rfl
  · intro i hi
    exact ⟨fun e => g0 i hi (Option.some.inj e).symm, (hJ i hi).2⟩


theorem TSt.wX {H : List Ob} {X Y : List Bool × List (List UInt8)} {s : TS} {k : Nat} {a b t : List UInt8} {K : TV → List Ob → Prop} (S : TSt H a b X Y s k) (hlen : s.x.length + t.length ≤ 140737488355328)
    (hk : ∀ H', TSt H' a b X Y { s with x := s.x ++ t } k → K (.tup [i64 (t.length : Int), .val .nilIface]) H') :
    VCalls Try.prog 41 [.op k 0 [(1, 2)], ts t] H K := by
  obtain ⟨hA, hB, hx, hy, hn, hc, J1, J2, J3, J, p, ⟨⟨a0, r0, ho, ha0, hb0⟩, hof⟩, hJ⟩ := S
  have nA := p.ne hA (by intros; simp)
  have nB := p.ne hB (by intros; simp)
  have nx := p.ne hx (by intros; simp [sideT])
  have ny := p.ne hy (by intros; simp [sideT])
  have nn := p.ne hn (by intros; simp)
  have nc := p.ne hc (by intros; simp)
  have no := p.ne ho (by intros; simp)
  obtain ⟨⟨a1, r1, a2, r2, a3, r3, hp, s1, s2, s3, b1, b2, b3⟩, ⟨q, hq⟩, n12, n13, n23⟩ := p
  have nq : q ≠ k := fun e => by subst e; rw [hp] at hq; cases hq
  have w1 := width_self s1
  have w2 := width_self s2
  have w3 := width_self s3
  have x1 := b1.wd
  have x2 := b2.wd
  have x3 := b3.wd
  refine writeAny (q := q) hp (pcA2 w1 x1 w2 x2 w3 x3) (pcF2 w1 x1 w2 x2 w3 x3) s2 b2 hq liesP2 hlen ?_
  intro H' x' r' j hs hp' hb' hfr hl hj
  rw [pcT2 w1 x1 w2 x2 w3 x3 rfl hb'.wd] at hs
  obtain rfl := Option.some.inj hs
  have keep : ∀ {i : Nat} {ob : Ob}, H[i]? = some ob → i ≠ k → J2 ≠ some i → H'[i]? = some ob := fun {i ob} h h1 h2 => (hfr i (List.getElem?_eq_some_iff.1 h).1 h1 h2).trans h
  have fr : ∀ {r : TV} {l : List UInt8} {Jx : Option Nat}, Buf H r l Jx → (∀ i, Jx = some i → J2 ≠ some i) → Buf H' r l Jx ∧ ∀ i, Jx = some i → i ≠ j := fun {r l Jx} hb hne => by
    refine ⟨hb.keep fun i hi => ?_, fun i hi e => ?_⟩
    · subst hi; exact hfr i hb.lt (hb.ne hp i rfl) (hne i rfl)
    · subst hi; subst e
      rcases hj with e | ⟨_, e⟩
      · exact hne i rfl e
      · have := hb.lt; omega
  obtain ⟨f0, g0⟩ := fr hb0 (fun i hi => (hJ i hi).2.1)
  obtain ⟨f1, g1⟩ := fr b1 (fun i hi => n12 i hi)
  obtain ⟨f3, g3⟩ := fr b3 (fun i hi e => n23 i e hi)
  refine hk H' ⟨keep hA nA (b2.nb hA), keep hB nB (b2.nb hB), keep hx nx (b2.nb hx), keep hy ny (b2.nb hy), keep hn nn (b2.nb hn), keep hc nc (b2.nb hc), J1, some j, J3, J, ⟨⟨_, _, _, _, _, _, hp', s1, .inr rfl, s3, f1, hb', f3⟩, ⟨q, keep hq nq (b2.nf hq)⟩, ?_, n13, ?_⟩, ⟨⟨_, _, keep ho no (b2.nb ho), ha0, f0⟩, keep hof (fun e => by subst e; rw [hp] at hof; cases hof) (b2.nf hof)⟩, ?_⟩
  · intro i hi h; exact g1 _ hi (Option.some.inj h).symm
  · intro i hi h; cases hi; exact g3 _ h rfl
  · intro i hi
    exact ⟨(hJ i hi).1, fun e => g0 i hi (Option.some.inj e).symm, (hJ i hi).2.2⟩


theorem TSt.wY {H : List Ob} {X Y : List Bool × List (List UInt8)} {s : TS} {k : Nat} {a b t : List UInt8} {K : TV → List Ob → Prop} (S : TSt H a b X Y s k) (hlen : s.y.length + t.length ≤ 140737488355328)
    (hk : ∀ H', TSt H' a b X Y { s with y := s.y ++ t } k → K (.tup [i64 (t.length : Int), .val .nilIface]) H') :
    VCalls Try.prog 41 [.op k 0 [(2, 4)], ts t] H K := by
  obtain ⟨hA, hB, hx, hy, hn, hc, J1, J2, J3, J, p, ⟨⟨a0, r0, ho, ha0, hb0⟩, hof⟩, hJ⟩ := S
  have nA := p.ne hA (by intros; simp)
  have nB := p.ne hB (by intros; simp)
  have nx := p.ne hx (by intros; simp [sideT])
  have ny := p.ne hy (by intros; simp [sideT])
  have nn := p.ne hn (by intros; simp)
  have nc := p.ne hc (by intros; simp)
  have no := p.ne ho (by intros; simp)
  obtain ⟨⟨a1, r1, a2, r2, a3, r3, hp, s1, s2, s3, b1, b2, b3⟩, ⟨q, hq⟩, n12, n13, n23⟩ := p
  have nq : q ≠ k := fun e => by subst e; rw [hp] at hq; cases hq
  have w1 := width_self s1
  have w2 := width_self s2
  have w3 := width_self s3
  have x1 := b1.wd
  have x2 := b2.wd
  have x3 := b3.wd
  refine writeAny (q := q) hp (pcA3 w1 x1 w2 x2 w3 x3) (pcF3 w1 x1 w2 x2 w3 x3) s3 b3 hq liesP3 hlen ?_
  intro H' x' r' j hs hp' hb' hfr hl hj
  rw [pcT3 w1 x1 w2 x2 w3 x3 rfl hb'.wd] at hs
  obtain rfl := Option.some.inj hs
  have keep : ∀ {i : Nat} {ob : Ob}, H[i]? = some ob → i ≠ k → J3 ≠ some i → H'[i]? = some ob := fun {i ob} h h1 h2 => (hfr i (List.getElem?_eq_some_iff.1 h).1 h1 h2).trans h
  have fr : ∀ {r : TV} {l : List UInt8} {Jx : Option Nat}, Buf H r l Jx → (∀ i, Jx = some i → J3 ≠ some i) → Buf H' r l Jx ∧ ∀ i, Jx = some i → i ≠ j := fun {r l Jx} hb hne => by
    refine ⟨hb.keep fun i hi => ?_, fun i hi e => ?_⟩
    · subst hi; exact hfr i hb.lt (hb.ne hp i rfl) (hne i rfl)
    · subst hi; subst e
      rcases hj with e | ⟨_, e⟩
      · exact hne i rfl e
      · have := hb.lt; omega
  obtain ⟨f0, g0⟩ := fr hb0 (fun i hi => (hJ i hi).2.2)
  obtain ⟨f1, g1⟩ := fr b1 (fun i hi => n13 i hi)
  obtain ⟨f2, g2⟩ := fr b2 (fun i hi => n23 i hi)
  refine hk H' ⟨keep hA nA (b3.nb hA), keep hB nB (b3.nb hB), keep hx nx (b3.nb hx), keep hy ny (b3.nb hy), keep hn nn (b3.nb hn), keep hc nc (b3.nb hc), J1, J2, some j, J, ⟨⟨_, _, _, _, _, _, hp', s1, s2, .inr rfl, f1, f2, hb'⟩, ⟨q, keep hq nq (b3.nf hq)⟩, n12, ?_, ?_⟩, ⟨⟨_, _, keep ho no (b3.nb ho), ha0, f0⟩, keep hof (fun e => by subst e; rw [hp] at hof; cases hof) (b3.nf hof)⟩, ?_⟩
  · intro i hi h; exact g1 _ hi (Option.some.inj h).symm
  · intro i hi h; exact g2 _ hi (Option.some.inj h).symm
  · intro i hi
    exact ⟨(hJ i hi).1, (hJ i hi).2.1, fun e => g0 i hi (Option.some.inj e).symm⟩


/-- All: written to. -/
theorem TSt.wAll {H : List Ob} {X Y : List Bool × List (List UInt8)} {s : TS} {k : Nat} {a b t : List UInt8} {K : TV → List Ob → Prop} (S : TSt H a b X Y s k) (hlen : s.out.length + t.length ≤ 140737488355328)
    (hk : ∀ H', TSt H' a b X Y { s with out := s.out ++ t } k → K (.tup [i64 (t.length : Int), .val .nilIface]) H') :
    VCalls Try.prog 41 [.op 4 0 [], ts t] H K := by
  obtain ⟨hA, hB, hx, hy, hn, hc, J1, J2, J3, J, p, O, hJ⟩ := S
  refine outV O hlen ?_
  intro H' j O' st hj
  obtain ⟨a0, r0, ho, ha0, hb0⟩ := O.ex
  have no := p.ne ho (by intros; simp)
  obtain ⟨⟨a1, r1, a2, r2, a3, r3, hp, s1, s2, s3, b1, b2, b3⟩, ⟨q, hq⟩, n12, n13, n23⟩ := p
  have keep : ∀ {i v : Nat} {x : TV}, H[i]? = some (.obj v x) → i ≠ 4 → H'[i]? = some (.obj v x) := fun {i v x} h h1 => st.at h fun y hy => by
    rcases List.mem_cons.1 hy with rfl | hy
    · intro e; exact h1 (Option.some.inj e).symm
    · obtain rfl := List.mem_singleton.1 hy; exact hb0.nb h
  have fr : ∀ {r : TV} {l : List UInt8} {Jx : Option Nat}, Buf H r l Jx → (∀ i, J = some i → Jx ≠ some i) → Buf H' r l Jx ∧ Jx ≠ some j := fun {r l Jx} hb hne => by
    refine ⟨hb.keep fun i hi => ?_, fun e => ?_⟩
    · subst hi
      refine st.2 i hb.lt fun y hy => ?_
      rcases List.mem_cons.1 hy with rfl | hy
      · intro e; exact hb.ne ho i rfl (Option.some.inj e).symm
      · obtain rfl := List.mem_singleton.1 hy; exact fun e => hne i e rfl
    · subst e
      rcases hj with e | ⟨_, e⟩
      · exact hne j e rfl
      · have := hb.lt; omega
  obtain ⟨f1, g1⟩ := fr b1 (fun i hi => (hJ i hi).1)
  obtain ⟨f2, g2⟩ := fr b2 (fun i hi => (hJ i hi).2.1)
  obtain ⟨f3, g3⟩ := fr b3 (fun i hi => (hJ i hi).2.2)
  refine hk H' ⟨keep hA (by decide), keep hB (by decide), keep hx (by decide), keep hy (by decide), keep hn (by decide), keep hc (by decide), J1, J2, J3, some j, ⟨⟨a1, r1, a2, r2, a3, r3, keep hp (Ne.symm no), s1, s2, s3, f1, f2, f3⟩, ⟨q, st.at hq fun y hy => ?_⟩, n12, n13, n23⟩, O', fun i hi => ?_⟩
  · rcases List.mem_cons.1 hy with rfl | hy
    · intro e; cases e; rw [ho] at hq; cases hq
    · obtain rfl := List.mem_singleton.1 hy; exact hb0.nf hq
  · cases hi; exact ⟨g1, g2, g3⟩
end Go.Proofs.Ytknphdcjopaaoaa
