/- Graphs of nodes in plain Lean: what is reached; the order in which nodes come free; a graph goes round just where some do not come free. No program in sight. -/
import Derived.Test.YtknphdcjopaaoaaDoorVgHelp
namespace Go.Proofs.YtknphdcjopaaoaaDoor
open Go.RowKit
set_option linter.unusedVariables false
set_option autoImplicit false

def idsOf (l : List Nd) : List (List UInt8) := l.map (·.id)
/-- The parents of an id. -/
def pOf (l : List Nd) (x : List UInt8) : List (List UInt8) := ((l.find? fun n => n.id == x).map (·.ps)).getD []
/-- What some reach. -/
inductive Rc (l : List Nd) (S : List (List UInt8)) : List UInt8 → Prop
  | base {x : List UInt8} : x ∈ S → Rc l S x
  | step {x y : List UInt8} : Rc l S x → y ∈ pOf l x → Rc l S y
/-- Ids differ, and parents are there. -/
structure Valid (l : List Nd) : Prop where
  nodup : (idsOf l).Nodup
  there : ∀ n ∈ l, ∀ p ∈ n.ps, p ∈ idsOf l
def Cyc (l : List Nd) : Prop := ∃ n ∈ l, Rc l n.ps n.id
def GOk (l : List Nd) : Prop := Valid l ∧ ¬ Cyc l

theorem mem_ids {l : List Nd} {n : Nd} (h : n ∈ l) : n.id ∈ idsOf l := List.mem_map.2 ⟨n, h, rfl⟩
theorem pOf_id {l : List Nd} (hn : (idsOf l).Nodup) {n : Nd} (h : n ∈ l) : pOf l n.id = n.ps := by
  unfold pOf
  have : l.find? (fun m => m.id == n.id) = some n := by
    induction l with
    | nil => simp at h
    | cons a l ih =>
      rw [idsOf, List.map_cons, List.nodup_cons] at hn
      rw [List.find?_cons]
      rcases List.mem_cons.1 h with rfl | h
      · simp
      · have hne : a.id ≠ n.id := fun e => hn.1 (e ▸ List.mem_map.2 ⟨n, h, rfl⟩)
        have : (a.id == n.id) = false := by simpa using hne
        rw [this]
        exact ih hn.2 h
  rw [this]; rfl
theorem pOf_mem {l : List Nd} {x y : List UInt8} (h : y ∈ pOf l x) : ∃ n ∈ l, n.id = x ∧ y ∈ n.ps := by
  unfold pOf at h
  cases hf : l.find? (fun m => m.id == x) with
  | none => rw [hf] at h; simp at h
  | some n =>
    rw [hf] at h
    exact ⟨n, List.mem_of_find?_eq_some hf, by have := List.find?_some hf; simpa using this, by simpa using h⟩
theorem Rc.mono {l : List Nd} {S T : List (List UInt8)} (h : ∀ x ∈ S, Rc l T x) {x : List UInt8} (hx : Rc l S x) : Rc l T x := by
  induction hx with
  | base h1 => exact h _ h1
  | step _ h1 ih => exact .step ih h1
theorem Rc.there {l : List Nd} (hv : Valid l) {S : List (List UInt8)} (hS : ∀ x ∈ S, x ∈ idsOf l) {x : List UInt8} (h : Rc l S x) : x ∈ idsOf l := by
  cases h with
  | base h => exact hS _ h
  | step h1 h2 => obtain ⟨n, hn, _, hp⟩ := pOf_mem h2; exact hv.there n hn _ hp

/-! Coming free. -/
/-- Ids one behind the other, each behind all that have it as a parent. -/
inductive Ord (l : List Nd) : List (List UInt8) → Prop
  | nil : Ord l []
  | snoc {d : List (List UInt8)} {x : List UInt8} : Ord l d → ¬ x ∈ d → x ∈ idsOf l → (∀ n ∈ l, x ∈ n.ps → n.id ∈ d) → Ord l (d ++ [x])
theorem Ord.kids {l : List Nd} {d : List (List UInt8)} (h : Ord l d) : ∀ {x : List UInt8}, x ∈ d → ∀ n ∈ l, x ∈ n.ps → n.id ∈ d := by
  induction h with
  | nil => intro x hx; simp at hx
  | snoc h1 h2 h3 h4 ih =>
    intro x hx n hn hp
    rcases List.mem_append.1 hx with hx | hx
    · exact List.mem_append_left _ (ih hx n hn hp)
    · rw [List.mem_singleton] at hx; subst hx
      exact List.mem_append_left _ (h4 n hn hp)
theorem Ord.nodup {l : List Nd} {d : List (List UInt8)} (h : Ord l d) : d.Nodup := by
  induction h with
  | nil => simp
  | snoc h1 h2 h3 h4 ih =>
    rw [List.nodup_append]
    exact ⟨ih, by simp, fun a ha b hb => by rw [List.mem_singleton] at hb; subst hb; exact fun e => h2 (e ▸ ha)⟩
theorem Ord.sub {l : List Nd} {d : List (List UInt8)} (h : Ord l d) : ∀ x ∈ d, x ∈ idsOf l := by
  induction h with
  | nil => simp
  | snoc h1 h2 h3 h4 ih =>
    intro x hx
    rcases List.mem_append.1 hx with hx | hx
    · exact ih x hx
    · rw [List.mem_singleton] at hx; subst hx; exact h3
theorem Ord.back {l : List Nd} {d : List (List UInt8)} (h : Ord l d) {n : Nd} (hn : n ∈ l) {x : List UInt8} (hr : Rc l n.ps x) : x ∈ d → n.id ∈ d := by
  induction hr with
  | base h1 => exact fun hx => h.kids hx n hn h1
  | step h1 h2 ih =>
    intro hx
    obtain ⟨m, hm, hme, hp⟩ := pOf_mem h2
    exact ih (hme ▸ h.kids hx m hm hp)
theorem Ord.acyc {l : List Nd} {d : List (List UInt8)} (h : Ord l d) : ∀ {n : Nd}, n ∈ l → n.id ∈ d → ¬ Rc l n.ps n.id := by
  induction h with
  | nil => intro n _ h; simp at h
  | snoc h1 h2 h3 h4 ih =>
    intro n hn hx hr
    rcases List.mem_append.1 hx with hx | hx
    · exact ih hn hx hr
    · rw [List.mem_singleton] at hx
      apply h2
      rw [← hx]
      cases hr with
      | base h5 => exact h4 n hn (hx ▸ h5)
      | step h5 h6 =>
        obtain ⟨m, hm, hme, hp⟩ := pOf_mem h6
        have hk := h4 m hm (hx ▸ hp)
        rw [hme] at hk
        exact h1.back hn h5 hk
theorem len_sub {α : Type} [BEq α] [LawfulBEq α] : ∀ {d e : List α}, d.Nodup → (∀ x ∈ d, x ∈ e) → d.length ≤ e.length
  | [], e, _, _ => by simp
  | x :: d, e, h, hs => by
    rw [List.nodup_cons] at h
    have hx : x ∈ e := hs x (by simp)
    have := len_sub (d := d) (e := e.erase x) h.2 fun y hy => (List.mem_erase_of_ne (fun (q : y = x) => h.1 (q ▸ hy))).2 (hs y (by simp [hy]))
    rw [List.length_erase_of_mem hx] at this
    have := List.length_pos_of_mem hx
    rw [List.length_cons]; omega
theorem mem_of_len {α : Type} [BEq α] [LawfulBEq α] {d e : List α} (h : d.Nodup) (hs : ∀ x ∈ d, x ∈ e) (hl : e.length ≤ d.length) {x : α} (hx : x ∈ e) : x ∈ d := by
  refine Classical.byContradiction fun hd => ?_
  have := len_sub (d := x :: d) (e := e) (List.nodup_cons.2 ⟨hd, h⟩) fun y hy => by
    rcases List.mem_cons.1 hy with rfl | hy
    · exact hx
    · exact hs y hy
  rw [List.length_cons] at this; omega
theorem Ord.le {l : List Nd} {d : List (List UInt8)} (h : Ord l d) : d.length ≤ l.length := by
  have := len_sub h.nodup h.sub
  rwa [idsOf, List.length_map] at this

theorem filter_lt {α : Type} {p q : α → Bool} : ∀ {l : List α}, (∀ x ∈ l, q x = true → p x = true) → (∃ x ∈ l, p x = true ∧ q x = false) → (l.filter q).length < (l.filter p).length
  | [], _, h => by obtain ⟨x, hx, _⟩ := h; simp at hx
  | a :: l, h1, h2 => by
    have hle : ∀ {l : List α}, (∀ x ∈ l, q x = true → p x = true) → (l.filter q).length ≤ (l.filter p).length := by
      intro l
      induction l with
      | nil => intro _; simp
      | cons b l ih =>
        intro h
        have := ih fun x hx => h x (by simp [hx])
        rw [List.filter_cons, List.filter_cons]
        cases hq : q b with
        | false => cases hp : p b <;> simp <;> omega
        | true => rw [h b (by simp) hq]; simp; omega
    rw [List.filter_cons, List.filter_cons]
    obtain ⟨x, hx, hp, hq⟩ := h2
    rcases List.mem_cons.1 hx with rfl | hx
    · rw [hp, hq]
      have := hle (l := l) fun y hy => h1 y (List.mem_cons_of_mem _ hy)
      simp; omega
    · have := filter_lt (l := l) (fun y hy => h1 y (by simp [hy])) ⟨x, hx, hp, hq⟩
      cases hq : q a with
      | false => cases hp : p a <;> simp <;> omega
      | true => rw [h1 a (by simp) hq]; simp; omega
/-- If each of some has a child among them, the graph goes round. -/
theorem cyc_of {l : List Nd} (hn : (idsOf l).Nodup) {U : List UInt8 → Prop} (hU : ∀ y, U y → ∃ n ∈ l, U n.id ∧ y ∈ n.ps) {y : List UInt8} (hy : U y) (hyl : y ∈ idsOf l) : Cyc l := by
  refine Classical.byContradiction fun hc => ?_
  have key : ∀ (k : Nat) (n : Nd), n ∈ l → U n.id → ((idsOf l).filter fun x => !@decide (Rc l n.ps x) (Classical.propDecidable _)).length ≤ k → False := by
    intro k
    induction k with
    | zero =>
      intro n hnl hu hk
      have h0 := List.length_eq_zero_iff.1 (Nat.le_zero.1 hk)
      have : n.id ∈ ((idsOf l).filter fun x => !@decide (Rc l n.ps x) (Classical.propDecidable _)) := by
        rw [List.mem_filter]
        refine ⟨mem_ids hnl, ?_⟩
        rw [Bool.not_eq_true', @decide_eq_false_iff_not _ (Classical.propDecidable _)]
        exact fun h => hc ⟨n, hnl, h⟩
      rw [h0] at this; simp at this
    | succ k ih =>
      intro n hnl hu hk
      obtain ⟨m, hm, hmu, hp⟩ := hU _ hu
      refine ih m hm hmu ?_
      have : ((idsOf l).filter fun x => !@decide (Rc l m.ps x) (Classical.propDecidable _)).length < ((idsOf l).filter fun x => !@decide (Rc l n.ps x) (Classical.propDecidable _)).length := by
        apply filter_lt
        · intro x _ h
          rw [Bool.not_eq_true', @decide_eq_false_iff_not _ (Classical.propDecidable _)] at h ⊢
          refine fun hr => h (Rc.mono (fun z hz => ?_) hr)
          exact .step (.base hp) (by rw [pOf_id hn hnl]; exact hz)
        · refine ⟨n.id, mem_ids hnl, ?_, ?_⟩
          · rw [Bool.not_eq_true', @decide_eq_false_iff_not _ (Classical.propDecidable _)]
            exact fun h => hc ⟨n, hnl, h⟩
          · rw [Bool.not_eq_false', @decide_eq_true_eq _ (Classical.propDecidable _)]
            exact .base hp
      omega
  obtain ⟨n, hnl, rfl⟩ := List.mem_map.1 hyl
  exact key _ n hnl hy (Nat.le_refl _)

/-- How often those that are not done name one as a parent. -/
def kids (l : List Nd) (d : List (List UInt8)) (x : List UInt8) : Nat := ((l.filter fun n => !d.contains n.id).flatMap (·.ps)).count x
theorem kids_zero {l : List Nd} {d : List (List UInt8)} {x : List UInt8} (h : kids l d x = 0) : ∀ n ∈ l, x ∈ n.ps → n.id ∈ d := by
  intro n hn hx
  unfold kids at h
  rw [List.count_eq_zero] at h
  refine Classical.byContradiction fun hd => h ?_
  exact List.mem_flatMap.2 ⟨n, List.mem_filter.2 ⟨hn, by simpa using hd⟩, hx⟩
theorem kids_pos {l : List Nd} {d : List (List UInt8)} {x : List UInt8} (h : kids l d x ≠ 0) : ∃ n ∈ l, ¬ n.id ∈ d ∧ x ∈ n.ps := by
  unfold kids at h
  have := List.count_pos_iff.1 (Nat.pos_of_ne_zero h)
  obtain ⟨n, hn, hx⟩ := List.mem_flatMap.1 this
  obtain ⟨h1, h2⟩ := List.mem_filter.1 hn
  exact ⟨n, h1, by simpa using h2, hx⟩
theorem kids_add {l : List Nd} (hn : (idsOf l).Nodup) {d : List (List UInt8)} {n : Nd} (hnl : n ∈ l) (hd : ¬ n.id ∈ d) (x : List UInt8) : kids l d x = kids l (d ++ [n.id]) x + n.ps.count x := by
  unfold kids
  induction l with
  | nil => simp at hnl
  | cons a l ih =>
    rw [idsOf, List.map_cons, List.nodup_cons] at hn
    rw [List.filter_cons, List.filter_cons]
    rcases List.mem_cons.1 hnl with rfl | h
    · have e1 : (!d.contains n.id) = true := by simpa using hd
      have e2 : (!(d ++ [n.id]).contains n.id) = false := by simp
      rw [e1, e2]
      have e3 : l.filter (fun m => !(d ++ [n.id]).contains m.id) = l.filter fun m => !d.contains m.id := by
        apply List.filter_congr
        intro m hm
        have : m.id ≠ n.id := fun e => hn.1 (e ▸ List.mem_map.2 ⟨m, hm, rfl⟩)
        simp [this]
      rw [e3]
      simp only [if_true, List.flatMap_cons, List.count_append]
      simp; omega
    · have hne : a.id ≠ n.id := fun e => hn.1 (e ▸ List.mem_map.2 ⟨n, h, rfl⟩)
      have e1 : (!(d ++ [n.id]).contains a.id) = !d.contains a.id := by simp [hne]
      rw [e1]
      have := ih hn.2 h
      cases (!d.contains a.id)
      · exact this
      · simp only [if_true, List.flatMap_cons, List.count_append]; omega
/-- How it stands between two nodes that come free: done; free; what is left of each. -/
structure Kahn (l : List Nd) (d fr : List (List UInt8)) (f : List UInt8 → Nat) : Prop where
  ord : Ord l d
  nodup : fr.Nodup
  free : ∀ y, y ∈ fr ↔ (y ∈ idsOf l ∧ ¬ y ∈ d ∧ f y = 0)
  zero : ∀ y ∈ d, f y = 0
theorem Kahn.take {l : List Nd} (hv : Valid l) {d fr : List (List UInt8)} {n : Nd} (hnl : n ∈ l) (h : Kahn l d (n.id :: fr) (kids l d)) : Kahn l (d ++ [n.id]) fr (fun y => kids l (d ++ [n.id]) y + n.ps.count y) := by
  obtain ⟨h1, h2, h3⟩ := (h.free n.id).1 (by simp)
  have hnd := List.nodup_cons.1 h.nodup
  refine ⟨.snoc h.ord h2 h1 (kids_zero h3), hnd.2, fun y => ?_, fun y hy => ?_⟩
  · rw [← kids_add hv.nodup hnl h2]
    have := h.free y
    constructor
    · intro hy
      obtain ⟨k1, k2, k3⟩ := this.1 (by simp [hy])
      refine ⟨k1, fun hm => ?_, k3⟩
      rcases List.mem_append.1 hm with hm | hm
      · exact k2 hm
      · rw [List.mem_singleton] at hm; subst hm; exact hnd.1 hy
    · rintro ⟨k1, k2, k3⟩
      have hm := this.2 ⟨k1, fun hm => k2 (by simp [hm]), k3⟩
      rcases List.mem_cons.1 hm with e | hm
      · exact absurd (by simp [e]) k2
      · exact hm
  · show kids l (d ++ [n.id]) y + n.ps.count y = 0
    rw [← kids_add hv.nodup hnl h2]
    rcases List.mem_append.1 hy with hy | hy
    · exact h.zero y hy
    · rw [List.mem_singleton] at hy; subst hy; exact h3
theorem Kahn.congr {l : List Nd} {d fr : List (List UInt8)} {f g : List UInt8 → Nat} (h : Kahn l d fr f) (e : ∀ y, g y = f y) : Kahn l d fr g := by
  have : g = f := funext e
  rw [this]; exact h
/-- A parent, once. -/
theorem Kahn.drop {l : List Nd} {d fr : List (List UInt8)} {f : List UInt8 → Nat} (h : Kahn l d fr f) {p : List UInt8} (hp : p ∈ idsOf l) (hf : f p ≠ 0) : Kahn l d (if f p = 1 then fr ++ [p] else fr) (fun y => if p = y then f p - 1 else f y) := by
  have hpd : ¬ p ∈ d := fun hm => hf (h.zero p hm)
  have hpf : ¬ p ∈ fr := fun hm => hf ((h.free p).1 hm).2.2
  refine ⟨h.ord, ?_, fun y => ?_, fun y hy => ?_⟩
  · split
    · rw [List.nodup_append]
      exact ⟨h.nodup, by simp, fun a ha b hb => by rw [List.mem_singleton] at hb; subst hb; exact fun e => hpf (e ▸ ha)⟩
    · exact h.nodup
  · have := h.free y
    by_cases hy : p = y
    · subst hy
      simp only [if_true]
      split
      · rename_i h1; simp [hp, hpd, h1]
      · rename_i h1
        constructor
        · exact fun hm => absurd hm hpf
        · rintro ⟨_, _, h2⟩; omega
    · simp only [if_neg hy]
      split
      · rw [← this, List.mem_append, List.mem_singleton]
        exact ⟨fun hm => hm.resolve_right fun e => hy e.symm, Or.inl⟩
      · exact this
  · have hne : p ≠ y := fun e => hpd (e ▸ hy)
    show (if p = y then f p - 1 else f y) = 0
    rw [if_neg hne]; exact h.zero y hy
theorem Kahn.none {l : List Nd} (hv : Valid l) {d : List (List UInt8)} (h : Kahn l d [] (kids l d)) : d.length = l.length ↔ ¬ Cyc l := by
  constructor
  · rintro he ⟨n, hn, hr⟩
    exact h.ord.acyc hn (mem_of_len h.ord.nodup h.ord.sub (by rw [he, idsOf, List.length_map]; exact Nat.le_refl _) (mem_ids hn)) hr
  · intro hc
    refine Nat.le_antisymm h.ord.le ?_
    have : ∀ y ∈ idsOf l, y ∈ d := by
      intro y hy
      refine Classical.byContradiction fun hd => hc (cyc_of hv.nodup (U := fun y => y ∈ idsOf l ∧ ¬ y ∈ d) ?_ ⟨hy, hd⟩ hy)
      rintro z ⟨hz1, hz2⟩
      obtain ⟨n, hn, h1, h2⟩ := kids_pos (l := l) (d := d) (x := z) fun e => by
        have := (h.free z).2 ⟨hz1, hz2, e⟩
        simp at this
      exact ⟨n, hn, ⟨mem_ids hn, h1⟩, h2⟩
    have := len_sub hv.nodup this
    rwa [idsOf, List.length_map] at this
end Go.Proofs.YtknphdcjopaaoaaDoor
