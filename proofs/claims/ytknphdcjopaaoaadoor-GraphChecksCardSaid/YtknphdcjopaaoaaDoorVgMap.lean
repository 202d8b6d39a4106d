/- Maps as lists of entries: what is asked behind what was written; nodes by their ids; counts. No program in sight. -/
import Derived.Test.YtknphdcjopaaoaaDoorVgCheck
namespace Go.Proofs.YtknphdcjopaaoaaDoor
open Go.RowKit
set_option linter.unusedVariables false
set_option autoImplicit false

theorem mgetM {k l : List UInt8} {x : TV} : ∀ {es : List (List UInt8 × TV)}, mget k (mput l x es) = if l = k then some x else mget k es
  | [] => by simp [mput, mget]
  | (q, y) :: es => by
    rw [mput]
    by_cases hq : q = l
    · subst hq
      rw [if_pos rfl, mget, mget]
      by_cases h : q = k <;> simp [h]
    · rw [if_neg hq, mget, mget, mgetM]
      by_cases h : q = k
      · subst h; rw [if_pos rfl, if_neg (fun e => hq e.symm), if_pos rfl]
      · rw [if_neg h, if_neg h]
theorem mput_at {k : List UInt8} {x : TV} : ∀ {es : List (List UInt8 × TV)}, (mput k x es)[mpos k es]? = some (k, x)
  | [] => by simp [mput, mpos]
  | (q, y) :: es => by
    rw [mput, mpos]
    by_cases hq : q = k
    · subst hq; simp
    · rw [if_neg hq, if_neg hq, List.getElem?_cons_succ, mput_at]
theorem mput_set {k : List UInt8} {x y : TV} : ∀ {es : List (List UInt8 × TV)}, (mput k x es).set (mpos k es) (k, y) = mput k y es
  | [] => by simp [mput, mpos]
  | (q, z) :: es => by
    rw [mput, mpos]
    by_cases hq : q = k
    · subst hq; simp [mput]
    · rw [if_neg hq, if_neg hq, List.set_cons_succ, mput_set, mput, if_neg hq]
theorem pr1 {α β : Type} {a : α} {b : β} : (a, b).1 = a := by simp
theorem pr2 {α β : Type} {a : α} {b : β} : (a, b).2 = b := by simp
theorem mput_len {k : List UInt8} {x : TV} : ∀ {es : List (List UInt8 × TV)}, (mput k x es).length = es.length + if k ∈ es.map (·.1) then 0 else 1
  | [] => by simp [mput]
  | (q, y) :: es => by
    rw [mput]
    by_cases hq : q = k
    · subst hq; simp
    · rw [if_neg hq, List.length_cons, mput_len]
      have : ¬ k = q := fun e => hq e.symm
      simp only [List.map_cons, List.mem_cons, this, false_or, List.length_cons]
      omega
theorem mput_new {k : List UInt8} {x : TV} : ∀ {es : List (List UInt8 × TV)}, ¬ k ∈ es.map (·.1) → mput k x es = es ++ [(k, x)]
  | [], _ => by simp [mput]
  | (q, y) :: es, h => by
    rw [List.map_cons, List.mem_cons, not_or] at h
    rw [mput, if_neg (fun e => h.1 e.symm), mput_new h.2, List.cons_append]
theorem mput_keys {k : List UInt8} {x : TV} : ∀ {es : List (List UInt8 × TV)} (y : List UInt8), y ∈ (mput k x es).map (·.1) ↔ y = k ∨ y ∈ es.map (·.1)
  | [], y => by simp [mput]
  | (q, z) :: es, y => by
    rw [mput]
    by_cases hq : q = k
    · subst hq; simp
    · rw [if_neg hq, List.map_cons, List.mem_cons, mput_keys, List.map_cons, List.mem_cons]
      simp only []
      constructor
      · rintro (h | h | h)
        · exact .inr (.inl h)
        · exact .inl h
        · exact .inr (.inr h)
      · rintro (h | h | h)
        · exact .inr (.inl h)
        · exact .inl h
        · exact .inr (.inr h)

theorem snoc_ind {α : Type} {P : List α → Prop} (h0 : P []) (hs : ∀ l a, P l → P (l ++ [a])) (l : List α) : P l := by
  have key : ∀ r : List α, P r.reverse := by
    intro r
    induction r with
    | nil => exact h0
    | cons a r ih => rw [List.reverse_cons]; exact hs _ _ ih
  have := key l.reverse
  rwa [List.reverse_reverse] at this
/-- Nodes by their ids, as they are laid in, one by one. -/
def nodesM (l : List Nd) : List (List UInt8 × TV) := l.foldl (fun es n => mput n.id (ndT n) es) []
theorem nodesM_snoc {l : List Nd} {n : Nd} : nodesM (l ++ [n]) = mput n.id (ndT n) (nodesM l) := by simp [nodesM]
theorem nodesM_keys {l : List Nd} : ∀ y, y ∈ (nodesM l).map (·.1) ↔ y ∈ idsOf l := by
  refine snoc_ind (P := fun l => ∀ y, y ∈ (nodesM l).map (·.1) ↔ y ∈ idsOf l) ?_ ?_ l
  · simp [nodesM, idsOf]
  · intro l n ih y
    rw [nodesM_snoc, mput_keys, ih]
    simp [idsOf, or_comm]
theorem nodesM_len {l : List Nd} : (nodesM l).length ≤ l.length ∧ ((nodesM l).length = l.length ↔ (idsOf l).Nodup) ∧ ((idsOf l).Nodup → nodesM l = l.map fun n => (n.id, ndT n)) := by
  refine snoc_ind (P := fun l => (nodesM l).length ≤ l.length ∧ ((nodesM l).length = l.length ↔ (idsOf l).Nodup) ∧ ((idsOf l).Nodup → nodesM l = l.map fun n => (n.id, ndT n))) ?_ ?_ l
  · simp [nodesM, idsOf]
  · intro l n ih
    obtain ⟨h1, h2, h3⟩ := ih
    have hk := nodesM_keys (l := l) n.id
    have hlen := mput_len (k := n.id) (x := ndT n) (es := nodesM l)
    rw [nodesM_snoc, List.length_append, List.length_singleton]
    have hnd : (idsOf (l ++ [n])).Nodup ↔ (idsOf l).Nodup ∧ ¬ n.id ∈ idsOf l := by
      have e : idsOf (l ++ [n]) = idsOf l ++ [n.id] := by simp [idsOf]
      rw [e, List.nodup_append]
      constructor
      · rintro ⟨g1, _, g2⟩
        exact ⟨g1, fun hm => g2 _ hm _ (by simp) rfl⟩
      · rintro ⟨g1, g2⟩
        exact ⟨g1, by simp, fun a ha b hb => by rw [List.mem_singleton] at hb; subst hb; exact fun e => g2 (e ▸ ha)⟩
    by_cases hm : n.id ∈ idsOf l
    · rw [if_pos (hk.2 hm)] at hlen
      refine ⟨by omega, ⟨fun e => by omega, fun e => absurd hm (hnd.1 e).2⟩, fun e => absurd hm (hnd.1 e).2⟩
    · rw [if_neg (fun h => hm (hk.1 h))] at hlen
      refine ⟨by omega, ⟨fun e => hnd.2 ⟨h2.1 (by omega), hm⟩, fun e => by have := h2.2 (hnd.1 e).1; omega⟩, fun e => ?_⟩
      rw [mput_new (fun h => hm (hk.1 h)), h3 (hnd.1 e).1]
      simp
theorem mget_find {l : List Nd} {x : List UInt8} : mget x (l.map fun n => (n.id, ndT n)) = (l.find? fun n => n.id == x).map ndT := by
  induction l with
  | nil => rfl
  | cons n l ih =>
    rw [List.map_cons, mget, List.find?_cons]
    by_cases h : n.id = x
    · simp [h]
    · have : (n.id == x) = false := by simpa using h
      rw [if_neg h, this, ih]
theorem mget_node {l : List Nd} (hn : (idsOf l).Nodup) {n : Nd} (h : n ∈ l) : mget n.id (nodesM l) = some (ndT n) := by
  rw [nodesM_len.2.2 hn, mget_find]
  obtain ⟨i, hi, rfl⟩ := List.mem_iff_getElem.1 h
  have : (l.find? fun m => m.id == l[i].id) = some l[i] := by
    rw [List.find?_eq_some_iff_getElem]
    refine ⟨by simp, i, hi, rfl, fun j hj => ?_⟩
    have := fnd_id hn hi
    have hne : ¬ l[j].id = l[i].id := fun e => by
      have h2 := fnd_id hn (i := j) (by omega)
      rw [e] at h2; omega
    simpa using hne
  rw [this]; rfl
theorem mget_none {l : List Nd} {x : List UInt8} (h : ¬ x ∈ idsOf l) (hn : (idsOf l).Nodup) : mget x (nodesM l) = none := by
  rw [nodesM_len.2.2 hn, mget_find, Option.map_eq_none_iff, List.find?_eq_none]
  intro n hnl
  have : ¬ n.id = x := fun e => h (e ▸ mem_ids hnl)
  simpa using this

/-- No entry refers to an object. -/
def BelowM (es : List (List UInt8 × TV)) : Prop := ∀ g, belowL g (es.map (·.2)) = true
theorem BelowM.put {es : List (List UInt8 × TV)} (h : BelowM es) {k : List UInt8} {x : TV} (hx : ∀ g, belowT g x = true) : BelowM (mput k x es) := by
  intro g
  have h1 := h g
  clear h
  induction es with
  | nil => rw [mput, List.map_cons, belowL, hx g]; rfl
  | cons e es ih =>
    obtain ⟨q, y⟩ := e
    rw [List.map_cons, belowL, Bool.and_eq_true] at h1
    rw [mput]
    split
    · rw [List.map_cons, belowL, hx g, h1.2]; rfl
    · rw [List.map_cons, belowL, h1.1, ih h1.2]; rfl
theorem BelowM.nil : BelowM [] := fun g => rfl
theorem nodesM_below {l : List Nd} : BelowM (nodesM l) := by
  refine snoc_ind (P := fun l => BelowM (nodesM l)) BelowM.nil (fun l n ih => ?_) l
  rw [nodesM_snoc]
  exact ih.put fun g => by rw [ndT_is]; rfl
/-- A map that counts. -/
def CntF (es : List (List UInt8 × TV)) (f : List UInt8 → Nat) : Prop := ∀ y, (mget y es).getD (i64 ((0 : Nat) : Int)) = i64 ((f y : Nat) : Int)
theorem CntF.put {es : List (List UInt8 × TV)} {f : List UInt8 → Nat} (h : CntF es f) (p : List UInt8) (n : Nat) : CntF (mput p (i64 ((n : Nat) : Int)) es) (fun y => if p = y then n else f y) := by
  intro y
  rw [mgetM]
  by_cases e : p = y
  · simp [e]
  · simp only [if_neg e]; exact h y
theorem CntF.congr {es : List (List UInt8 × TV)} {f g : List UInt8 → Nat} (h : CntF es f) (e : ∀ y, g y = f y) : CntF es g := fun y => by rw [e]; exact h y
theorem CntF.nil : CntF [] (fun _ => 0) := fun y => by rw [mget]; rfl

theorem kids_le {l : List Nd} (hp : ∀ n ∈ l, n.ps.length ≤ 1000) (d : List (List UInt8)) (y : List UInt8) : kids l d y ≤ 1000 * l.length := by
  unfold kids
  refine Nat.le_trans List.count_le_length ?_
  rw [List.length_flatMap]
  induction l with
  | nil => simp
  | cons n l ih =>
    have h1 := ih fun m hm => hp m (by simp [hm])
    have h2 := hp n (by simp)
    rw [List.filter_cons, List.length_cons]
    split
    · rw [List.map_cons, List.sum_cons]; omega
    · omega
theorem kids_nil {l : List Nd} {y : List UInt8} : kids l [] y = (l.flatMap (·.ps)).count y := by
  unfold kids
  rw [List.filter_eq_self.2 (by simp)]
end Go.Proofs.YtknphdcjopaaoaaDoor
