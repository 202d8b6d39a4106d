/- The operations that make nothing do in the model what the machine of values says. No program in sight. -/
import Derived.Test.YtknphdcjopaaoaaVmE
namespace Go.Proofs.Ytknphdcjopaaoaa
open Go.RowKit
set_option linter.unusedVariables false
set_option autoImplicit false

/-! The zero value of a type, as a reading. -/
def zV : List Value → Option TV
  | [v] => if v.oneCell' then some (.val v) else none
  | _ => none
mutual
def zT (P : Program) : Nat → TypeId → List Value → Option TV
  | 0, _, _ => none
  | d + 1, t, cs => match P.underlying t with
    | some (.struct fs) => (zF P d (fs.toList.map (·.type)) cs).map .agg
    | some (.array n e) => (match szOf P e with | some k => if k = 0 then none else (zA P d e k n cs).map fun xs => .arr n k xs | none => none)
    | some _ => zV cs
    | none => none
def zF (P : Program) : Nat → List TypeId → List Value → Option (List TV)
  | 0, _, _ => none
  | _ + 1, [], cs => if cs.length = 0 then some [] else none
  | d + 1, t :: ts, cs => match szOf P t with
    | some k => if k ≤ cs.length then (match zT P d t (cs.take k), zF P d ts (cs.drop k) with
      | some x, some xs => some (x :: xs)
      | _, _ => none) else none
    | none => none
def zA (P : Program) : Nat → TypeId → Nat → Nat → List Value → Option (List TV)
  | 0, _, _, _, _ => none
  | _ + 1, _, _, 0, cs => if cs.length = 0 then some [] else none
  | d + 1, t, k, n + 1, cs => if k ≤ cs.length then (match zT P d t (cs.take k), zA P d t k n (cs.drop k) with
      | some x, some xs => if pureT x then some (x :: xs) else none
      | _, _ => none) else none
end

section
variable {P : Program} {c : Ctx} {w : World}
mutual
theorem zT_spec : ∀ {d : Nat} {t : TypeId} {cs : List Value} {x : TV}, zT P d t cs = some x → RepC c w x cs ∧ pureT x = true
  | 0, t, cs, x, h => by simp [zT] at h
  | d + 1, t, cs, x, h => by
    rw [zT] at h
    split at h
    · obtain ⟨xs, hx, rfl⟩ := Option.map_eq_some_iff.1 h
      obtain ⟨h1, h2⟩ := zF_spec hx
      exact ⟨by rw [RepC]; exact h1, by rw [pureT]; exact h2⟩
    · split at h
      · split at h
        · cases h
        · obtain ⟨xs, hx, rfl⟩ := Option.map_eq_some_iff.1 h
          obtain ⟨h1, h2, h3, h4⟩ := zA_spec hx
          exact ⟨by rw [RepC]; exact ⟨h2, h3, RepCs.pure h4 h1⟩, rfl⟩
      · cases h
    · unfold zV at h
      split at h
      · split at h
        · rename_i hv; cases h; exact ⟨by rw [RepC]; exact ⟨rfl, hv⟩, rfl⟩
        · cases h
      · cases h
    · cases h
theorem zF_spec : ∀ {d : Nat} {ts : List TypeId} {cs : List Value} {xs : List TV}, zF P d ts cs = some xs → RepCs c w xs cs ∧ pureL xs = true
  | 0, ts, cs, xs, h => by simp [zF] at h
  | d + 1, [], cs, xs, h => by
    rw [zF] at h
    split at h
    · rename_i hl; cases h
      rw [List.length_eq_zero_iff.1 hl]
      exact ⟨by rw [RepCs], rfl⟩
    · cases h
  | d + 1, t :: ts, cs, xs, h => by
    rw [zF] at h
    split at h
    · split at h
      · split at h
        · rename_i k _ _ _ _ x ys hx hys
          cases h
          obtain ⟨h1, h2⟩ := zT_spec hx
          obtain ⟨h3, h4⟩ := zF_spec hys
          exact ⟨by rw [RepCs]; exact ⟨cs.take k, cs.drop k, (List.take_append_drop _ _).symm, h1, h3⟩, by rw [pureL, h2, h4]; rfl⟩
        · cases h
      · cases h
    · cases h
theorem zA_spec : ∀ {d : Nat} {t : TypeId} {k n : Nat} {cs : List Value} {xs : List TV}, zA P d t k n cs = some xs → RepCs c w xs cs ∧ xs.length = n ∧ (∀ x ∈ xs, width x = k) ∧ pureL xs = true
  | 0, t, k, n, cs, xs, h => by simp [zA] at h
  | d + 1, t, k, 0, cs, xs, h => by
    rw [zA] at h
    split at h
    · rename_i hl; cases h
      rw [List.length_eq_zero_iff.1 hl]
      exact ⟨by rw [RepCs], rfl, by simp, rfl⟩
    · cases h
  | d + 1, t, k, n + 1, cs, xs, h => by
    rw [zA] at h
    split at h
    · rename_i hk
      split at h
      · rename_i x ys hx hys
        split at h
        · cases h
          obtain ⟨h1, h2⟩ := zT_spec hx
          obtain ⟨h3, h4, h5, h6⟩ := zA_spec hys
          refine ⟨by rw [RepCs]; exact ⟨cs.take k, cs.drop k, (List.take_append_drop _ _).symm, h1, h3⟩, by simp [h4], ?_, by rw [pureL, h2, h6]; rfl⟩
          intro y hy
          rcases List.mem_cons.1 hy with rfl | hy
          · rw [← h1.length, List.length_take, Nat.min_eq_left hk]
          · exact h5 y hy
        · cases h
      · cases h
    · cases h
end
end

/-! A struct that is built. -/
theorem fill_set (off : Nat) : ∀ (vs : List Value) (j : Nat) (a m b : List Value), m.length = vs.length → a.length = off + j →
    (vs.zipIdx j).foldl (fun (cs : Array Value) (x : Value × Nat) => cs.setIfInBounds (off + x.2) x.1) (a ++ m ++ b).toArray = (a ++ vs ++ b).toArray
  | [], j, a, m, b, h, _ => by
    have : m = [] := List.length_eq_zero_iff.1 h
    subst this; rfl
  | v :: vs, j, a, m, b, h, ha => by
    cases m with
    | nil => simp at h
    | cons u m =>
      rw [List.zipIdx_cons, List.foldl_cons]
      have e : (a ++ u :: m ++ b).toArray.setIfInBounds (off + j) v = ((a ++ [v]) ++ m ++ b).toArray := by
        rw [← ha]; simp
      simp only [e]
      rw [fill_set off vs (j + 1) (a ++ [v]) m b (by simpa using h) (by simp; omega)]
      simp

/-- The cells of a list of parts, part by part. -/
theorem segs_of {c : Ctx} {w : World} : ∀ {xs : List TV} {us : List Value}, RepCs c w xs us → ∀ {i : Nat} {x : TV}, xs[i]? = some x → ∃ a m b, us = a ++ m ++ b ∧ a.length = widths (xs.take i) ∧ m.length = width x ∧
    ∀ y m', RepC c w y m' → m'.length = m.length → RepCs c w (xs.set i y) (a ++ m' ++ b) := by
  intro xs us h i x hx
  obtain ⟨a, m, b, rfl, h1, h2, h3, h4⟩ := comp_at h hx
  exact ⟨a, m, b, rfl, h1, h2.length, fun y m' hy hl => comp_set hx h3 hy h4⟩

theorem fill_spec {c : Ctx} {w : World} {place : Nat → Option (Nat × Nat)} {e : Env} {av : Opd → Value} (hav : ∀ x : Opd, Rep c w (x.ev e) (av x)) {szs : List Nat} (hplace : ∀ i k, szs[i]? = some k → place i = some ((szs.take i).sum, k)) :
    ∀ (ps : List (Nat × Opd)) (zs : List TV) (us : List Value), zs.map width = szs → RepCs c w zs us → fillsOk e szs ps →
      ∃ us', Instr.fill place us.toArray (ps.map fun q => (q.1, av q.2)) = some us'.toArray ∧ RepCs c w (fills e zs ps) us' ∧ (fills e zs ps).map width = szs
  | [], zs, us, hz, hr, hok => ⟨us, rfl, hr, hz⟩
  | (i, x) :: ps, zs, us, hz, hr, hok => by
    rw [fillsOk] at hok
    obtain ⟨⟨hl, hi⟩, hok⟩ := hok
    have hrep := (hav x).cells hl
    have hzi : ∃ z, zs[i]? = some z ∧ width z = width (x.ev e) := by
      rw [← hz, List.getElem?_map, Option.map_eq_some_iff] at hi
      exact hi
    obtain ⟨z, hzi, hzw⟩ := hzi
    obtain ⟨a, m, b, rfl, h1, h2, h3⟩ := segs_of hr hzi
    have hcl := hrep.length
    have hw : ∀ (l : List TV), widths l = (l.map width).sum := by
      intro l; induction l with
      | nil => rfl
      | cons y l ih => rw [widths, ih, List.map_cons, List.sum_cons]
    have hoff : a.length = (szs.take i).sum := by rw [h1, hw, List.map_take, hz]
    have hstep := fill_set a.length (av x).cells.toList 0 a m b (by rw [hcl, h2, hzw]) rfl
    have hz' : (zs.set i (x.ev e)).map width = szs := by
      rw [List.map_set, hz]
      obtain ⟨hlt, he⟩ := List.getElem?_eq_some_iff.1 hi
      rw [← he]; exact List.set_getElem_self hlt
    obtain ⟨us', k1, k2, k3⟩ := fill_spec hav hplace ps (zs.set i (x.ev e)) (a ++ (av x).cells.toList ++ b) hz' (h3 _ _ hrep (by rw [hcl, h2, hzw])) hok
    refine ⟨us', ?_, k2, k3⟩
    rw [List.map_cons, Instr.fill]
    simp only [hplace i _ hi]
    rw [if_neg]
    · rw [← k1]
      congr 1
      rw [← hoff]
      rw [← Array.foldl_toList]
      simp only [Array.toList_zipIdx]
      rw [← hstep]
    · simp only [ne_eq, List.size_toArray, List.length_append, Bool.or_eq_true, decide_eq_true_eq, not_or, Decidable.not_not]
      have : (av x).cells.size = width (x.ev e) := by rw [← hcl]; simp
      refine ⟨this, ?_⟩
      rw [this, ← hoff]; omega

theorem run_bounds {P : Program} {w : World} {e : Env} {c : Ctx} {a : Act} (he : EnvOk c w e a) {lo hi : Option Operand} {n lim cap : Nat} {K : Nat → Nat → Prop} (b : Bool) (hn : n ≤ cap) (hlim : lim ≤ cap) (hb : b = false → lim ≤ n) (h : bnd e (lo.map trO) (hi.map trO) n lim K) :
    ∃ l m, l ≤ m ∧ m ≤ lim ∧ K l m ∧ (Instr.sliceBounds b n cap (lo.map a.eval) (hi.map a.eval) none).run P w = .ok (l, m, cap) w := by
  unfold bnd at h
  have key : ∀ (o : Option Operand) (d : Option Int) (i : Int), (match o.map trO with | none => d | some x => (match x.ev e with | .val (.int _ i) => some i | _ => none)) = some i →
      (o = none ∧ d = some i) ∨ ∃ x k, o = some x ∧ a.eval x = .int k i := by
    intro o d i h
    cases o with
    | none => exact .inl ⟨rfl, h⟩
    | some x =>
      have hx := he.ev x
      simp only [Option.map_some] at h
      split at h
      · rename_i k j e1; cases h; rw [e1, Rep.val] at hx; exact .inr ⟨x, k, rfl, hx⟩
      · cases h
  split at h
  · rename_i l m h1 h2
    obtain ⟨⟨h3, h4, h5⟩, hK⟩ := h
    refine ⟨l.toNat, m.toNat, by omega, by omega, hK, ?_⟩
    have hm : (m.toNat : Int) = m := by omega
    have hll : (l.toNat : Int) = l := by omega
    rcases key _ _ _ h1 with ⟨rfl, e1⟩ | ⟨x, k, rfl, e1⟩ <;> rcases key _ _ _ h2 with ⟨rfl, e2⟩ | ⟨y, k', rfl, e2⟩
    · cases e1; cases e2
      simp [Instr.sliceBounds]
    · cases e1
      simp [Instr.sliceBounds, Instr.sliceBound, asIntOf, e2, show (0 : Int) ≤ m from by omega, show m ≤ (cap : Int) from by omega]
    · cases e2
      simp [Instr.sliceBounds, Instr.sliceBound, asIntOf, e1, h3, show l ≤ (n : Int) from by omega]
    · have e3 : (0 : Int) ≤ m := by omega
      have e4 : m ≤ (cap : Int) := by omega
      have e5 : max m 0 = m := by omega
      simp [Instr.sliceBounds, Instr.sliceBound, asIntOf, e1, e2, h3, e3, e4, e5, h4]
  · exact h.elim

end Go.Proofs.Ytknphdcjopaaoaa
