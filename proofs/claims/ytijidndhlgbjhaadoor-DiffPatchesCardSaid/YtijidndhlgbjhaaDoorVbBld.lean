/- strings.Builder as the machine of values has it: the check for copies; the string. -/
import Derived.Test.YtijidndhlgbjhaaDoorVbCopy
namespace Go.Proofs.YtijidndhlgbjhaaDoor
open Go.RowKit
variable [Globs]
set_option linter.unusedSectionVars false
set_option linter.unusedVariables false

theorem rep_tup0 {c : Ctx} {w : World} : Rep c w (.tup []) (.tuple #[]) := .inr ⟨[], [], rfl, rfl, by rw [RepL]⟩
theorem arg_op {c : Ctx} {w : World} {id ver : Nat} {p : List (Nat × Nat)} {vs : List Value} (h : RepL c w [.op id ver p] vs) : c.has id ver ∧ ∃ b o, c.β id ver = some (b, o) ∧ vs = [.pointer (some ⟨b, o + span p, none⟩)] := by
  obtain ⟨u, us, rfl, h1, h2⟩ := RepL.cons.1 h
  rw [RepL.nil] at h2; subst h2
  obtain ⟨g1, b, o, g2, g3⟩ := Rep.op (Or.inl h1 : Rep c w (.op id ver p) u)
  exact ⟨g1, b, o, g2, by rw [g3]⟩
/-- The builder's fields lie there. -/
theorem bld_cells {β : Nat → Nat → Option (Nat × Nat)} {H : List Ob} {F : Nat → Prop} {w : World} (hs : Sim ⟨β, H, F⟩ w) {id ver b o : Nat} {p : List (Nat × Nat)} {x u v : TV} (ho : H[id]? = some (.obj ver x)) (hb : β id ver = some (b, o)) (hg : getP p x = some (.agg [u, v])) (hu : width u = 1) (hv : width v = 1) :
    ∃ u' v', RepC ⟨β, H, F⟩ w u [u'] ∧ RepC ⟨β, H, F⟩ w v [v'] ∧ w.cell? ⟨b, o + span p, none⟩ = some u' ∧ w.cell? ⟨b, o + span p + 1, none⟩ = some v' := by
  obtain ⟨us, h1, h2⟩ := part_at hs ho hb hg
  rw [RepC, RepCs] at h1
  obtain ⟨a, r, rfl, h3, h4⟩ := h1
  rw [RepCs] at h4
  obtain ⟨a2, r2, rfl, h5, h6⟩ := h4
  rw [RepCs] at h6; subst h6
  have l1 := h3.length; rw [hu] at l1
  have l2 := h5.length; rw [hv] at l2
  obtain ⟨u', rfl⟩ := List.length_eq_one_iff.1 l1
  obtain ⟨v', rfl⟩ := List.length_eq_one_iff.1 l2
  exact ⟨u', v', h3, h5, by simpa using h2 0 u' rfl, h2 1 v' rfl⟩
/-- The builder's first field is written. -/
def BldSelf (id ver : Nat) (p : List (Nat × Nat)) (a : TV) : Prop := a = .val (.pointer none) ∨ a = .op id ver p
/-- A builder within a block of this type. -/
def lies (T : TypeId) (m o : Nat) : Prop := o < m ∧ liesAt Tryd.prog Tryd.prog.depth T (m / Tryd.prog.cellsOf T) o 91 1 = true

set_option maxRecDepth 100000 in
theorem copyCheckV {id ver q m : Nat} {T : TypeId} {p : List (Nat × Nat)} {x x' a v : TV} {H : List Ob} {K : TV → List Ob → Prop} (ho : H[id]? = some (.obj ver x)) (hg : getP p x = some (.agg [a, v])) (hv1 : width v = 1) (ha : BldSelf id ver p a)
    (hq : H[q]? = some (.fact id ver T m)) (hT : lies T m (span p)) (hp1 : setP p x (.agg [.op id ver p, v]) = some x') (hlv : lays v = true) (hk : K (.tup []) (H.set id (.obj ver x'))) :
    VCalls Tryd.prog 176 [.op id ver p] H K := by
  intro β F w vs hs hv
  obtain ⟨g1, b, o, hb, rfl⟩ := arg_op hv
  have hb' : β id ver = some (b, o) := hb
  obtain ⟨_, hfact⟩ := hs.ob q _ hq
  obtain ⟨rfl, hsh⟩ := hfact b o hb
  obtain ⟨hom, hlies⟩ := hT
  have ha1 : width a = 1 := by rcases ha with rfl | rfl <;> rfl
  obtain ⟨u', v', r1, r2, c0, c1⟩ := bld_cells hs ho hb hg ha1 hv1
  simp only [Nat.zero_add] at c0 c1
  have hrow : RepC ⟨β, H, F⟩ w (.agg [.op id ver p, v]) [.pointer (some ⟨b, span p, none⟩), v'] := by
    rw [RepC, RepCs]
    refine ⟨[_], [v'], rfl, ?_, ?_⟩
    · rw [RepC]; exact ⟨g1, b, 0, hb, by simp⟩
    · rw [RepCs]; exact ⟨[v'], [], rfl, r2, by rw [RepCs]⟩
  obtain ⟨k1, k2, ht⟩ := hs.store ho hb hp1 hrow
  simp only [Nat.zero_add] at k1 k2 ht
  -- what lies there behind
  have hsets : w.setCells b (span p) [.pointer (some ⟨b, span p, none⟩), v'] = w.setCell ⟨b, span p, none⟩ (.pointer (some ⟨b, span p, none⟩)) := by
    have h1 := setCells_append b [.pointer (some ⟨b, span p, none⟩)] [v'] (span p) w
    refine h1.trans ?_
    have hc : CellsAt w b (span p + 1) [v'] := fun j u hj => by
      cases j with
      | zero => simp at hj; subst hj; exact c1
      | succ j => simp at hj
    exact setCells_self (cellsAt_setCells hc (Nat.le_refl _))
  rw [hsets] at k1 k2
  rcases ha with rfl | rfl
  · rw [RepC] at r1
    have hu : u' = .pointer none := by simpa using r1.1
    subst hu
    have hfz : w.frozen? ⟨b, span p, none⟩ = false := (ht 0 (by simp)).2
    have hc := copyCheck_fresh b (span p) T m w c0 hsh hom hlies hfz
    have ea : ([Value.pointer (some ⟨b, 0 + span p, none⟩)]).toArray = #[.pointer (some ⟨b, span p, none⟩)] := by rw [Nat.zero_add]
    rw [ea]
    refine hc.mono ?_
    rintro e w' ⟨rfl, rfl⟩
    exact ⟨_, _, β, _, F, rfl, hk, k1, k2, rep_tup0⟩
  · rw [RepC] at r1
    obtain ⟨_, b', o', hb2, hu⟩ := r1
    have hb2' : β id ver = some (b', o') := hb2
    rw [hb'] at hb2'; cases hb2'
    have hu : u' = .pointer (some ⟨b, span p, none⟩) := by simpa using hu
    subst hu
    have hc := copyCheck_used b (span p) w c0
    have ea : ([Value.pointer (some ⟨b, 0 + span p, none⟩)]).toArray = #[.pointer (some ⟨b, span p, none⟩)] := by rw [Nat.zero_add]
    rw [ea]
    refine hc.mono ?_
    rintro e w' ⟨rfl, rfl⟩
    rw [setCell_self c0] at k1 k2
    exact ⟨_, _, β, _, F, rfl, hk, k1, k2, rep_tup0⟩
end Go.Proofs.YtijidndhlgbjhaaDoor
