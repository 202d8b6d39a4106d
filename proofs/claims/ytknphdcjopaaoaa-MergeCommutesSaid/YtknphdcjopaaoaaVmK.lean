/- What makes nothing yields one thing, and looks at its operands alone. No program in sight. -/
import Derived.Test.YtknphdcjopaaoaaVmH
namespace Go.Proofs.Ytknphdcjopaaoaa
open Go.RowKit
set_option linter.unusedVariables false
set_option autoImplicit false

def Opd.rd : Opd → List Nat
  | .t n => [n]
  | .c _ => []
  | .g _ => []
def rdO : Option Opd → List Nat
  | none => []
  | some x => x.rd
def POp.rd : POp → List Nat
  | .mov x | .un _ x | .conv _ x | .s2s x | .b2s x | .load _ _ x | .fieldA _ _ x | .field _ _ _ _ x | .ext _ x | .lenS x | .lenV x | .iface _ x | .nilc x => x.rd
  | .bin _ _ x y | .idxA _ x y | .idxAA _ _ x y | .idx _ _ _ x y | .idxS x y | .min x y | .max x y | .eqB x y _ | .eqN _ x y _ => x.rd ++ y.rd
  | .pick x y z => x.rd ++ (y.rd ++ z.rd)
  | .slS x lo hi | .slV _ x lo hi | .slA _ _ x lo hi => x.rd ++ (rdO lo ++ rdO hi)
  | .mkf _ a b => (a ++ b).flatMap Opd.rd
  | .build _ _ ps | .buildA _ _ _ ps => ps.flatMap fun q => q.2.rd
  | .gen _ xs => xs.flatMap Opd.rd

theorem ev_congr {e e' : Env} {x : Opd} (h : ∀ s ∈ x.rd, get e s = get e' s) : x.ev e = x.ev e' := by
  cases x with
  | t n => exact h n (by simp [Opd.rd])
  | c v => rfl
  | g n => rfl
theorem bnd_congr {e e' : Env} {lo hi : Option Opd} (h : ∀ s ∈ rdO lo ++ rdO hi, get e s = get e' s) (n lim : Nat) (K : Nat → Nat → Prop) : bnd e lo hi n lim K = bnd e' lo hi n lim K := by
  unfold bnd
  cases lo with
  | none => cases hi with
    | none => rfl
    | some y => simp only [ev_congr (x := y) (e := e) (e' := e') fun s hs => h s (by simp [rdO, hs])]
  | some x =>
    have h1 := ev_congr (x := x) (e := e) (e' := e') fun s hs => h s (by simp [rdO, hs])
    cases hi with
    | none => simp only [h1]
    | some y => simp only [h1, ev_congr (x := y) (e := e) (e' := e') fun s hs => h s (by simp [rdO, hs])]
theorem fills_congr {e e' : Env} : ∀ {ps : List (Nat × Opd)} (h : ∀ s ∈ ps.flatMap (fun q => q.2.rd), get e s = get e' s) (zs : List TV) (szs : List Nat), fills e zs ps = fills e' zs ps ∧ fillsOk e szs ps = fillsOk e' szs ps ∧ fillsPure e ps = fillsPure e' ps
  | [], h, zs, szs => ⟨rfl, rfl, rfl⟩
  | (i, x) :: ps, h, zs, szs => by
    have h1 := ev_congr (x := x) (e := e) (e' := e') fun s hs => h s (by simp [hs])
    have h2 : ∀ s ∈ ps.flatMap (fun q => q.2.rd), get e s = get e' s := fun s hs => h s (by rw [List.flatMap_cons]; exact List.mem_append_right _ hs)
    obtain ⟨k1, k2, k3⟩ := fills_congr h2 (zs.set i (x.ev e')) szs
    refine ⟨by rw [fills, fills, h1, k1], by rw [fillsOk, fillsOk, h1, k2], by rw [fillsPure, fillsPure, h1, k3]⟩
theorem map_ev_congr {e e' : Env} : ∀ {xs : List Opd} (h : ∀ s ∈ xs.flatMap Opd.rd, get e s = get e' s), xs.map (·.ev e) = xs.map (·.ev e')
  | [], h => rfl
  | x :: xs, h => by
    rw [List.map_cons, List.map_cons, ev_congr (x := x) (e := e) (e' := e') fun s hs => h s (by simp [hs]), map_ev_congr fun s hs => h s (by rw [List.flatMap_cons]; exact List.mem_append_right _ hs)]

theorem pop_congr {o : POp} {e e' : Env} (h : ∀ s ∈ o.rd, get e s = get e' s) (H : List Ob) (K : TV → Prop) : pop o e H K = pop o e' H K := by
  have two : ∀ {x y : Opd}, (∀ s ∈ x.rd ++ y.rd, get e s = get e' s) → x.ev e = x.ev e' ∧ y.ev e = y.ev e' := fun h => ⟨ev_congr fun s hs => h s (List.mem_append_left _ hs), ev_congr fun s hs => h s (List.mem_append_right _ hs)⟩
  cases o with
  | mov x => simp only [pop, ev_congr h]
  | un op x => simp only [pop, ev_congr h]
  | conv k x => simp only [pop, ev_congr h]
  | s2s x => simp only [pop, ev_congr h]
  | b2s x => simp only [pop, ev_congr h]
  | load ag sz x => simp only [pop, ev_congr h]
  | fieldA i off x => simp only [pop, ev_congr h]
  | field ag sz i off x => simp only [pop, ev_congr h]
  | ext i x => simp only [pop, ev_congr h]
  | lenS x => simp only [pop, ev_congr h]
  | lenV x => simp only [pop, ev_congr h]
  | iface t x => simp only [pop, ev_congr h]
  | nilc x => simp only [pop, ev_congr h]
  | bin t op x y => obtain ⟨h1, h2⟩ := two h; simp only [pop, h1, h2]
  | idxA k x y => obtain ⟨h1, h2⟩ := two h; simp only [pop, h1, h2]
  | idxAA n k x y => obtain ⟨h1, h2⟩ := two h; simp only [pop, h1, h2]
  | idx ag n k x y => obtain ⟨h1, h2⟩ := two h; simp only [pop, h1, h2]
  | idxS x y => obtain ⟨h1, h2⟩ := two h; simp only [pop, h1, h2]
  | min x y => obtain ⟨h1, h2⟩ := two h; simp only [pop, h1, h2]
  | max x y => obtain ⟨h1, h2⟩ := two h; simp only [pop, h1, h2]
  | eqB x y n => obtain ⟨h1, h2⟩ := two h; simp only [pop, h1, h2]
  | eqN kd x y n => obtain ⟨h1, h2⟩ := two h; simp only [pop, h1, h2]
  | pick x y z =>
    have h1 := ev_congr (x := x) (e := e) (e' := e') fun s hs => h s (List.mem_append_left _ hs)
    obtain ⟨h2, h3⟩ := two fun s hs => h s (List.mem_append_right _ hs)
    simp only [pop, h1, h2, h3]
  | slS x lo hi =>
    have h1 := ev_congr (x := x) (e := e) (e' := e') fun s hs => h s (List.mem_append_left _ hs)
    have h2 := fun n lim K => bnd_congr (lo := lo) (hi := hi) (e := e) (e' := e') (fun s hs => h s (List.mem_append_right _ hs)) n lim K
    simp only [pop, h1, h2]
  | slV k x lo hi =>
    have h1 := ev_congr (x := x) (e := e) (e' := e') fun s hs => h s (List.mem_append_left _ hs)
    have h2 := fun n lim K => bnd_congr (lo := lo) (hi := hi) (e := e) (e' := e') (fun s hs => h s (List.mem_append_right _ hs)) n lim K
    simp only [pop, h1, h2]
  | slA n k x lo hi =>
    have h1 := ev_congr (x := x) (e := e) (e' := e') fun s hs => h s (List.mem_append_left _ hs)
    have h2 := fun n lim K => bnd_congr (lo := lo) (hi := hi) (e := e) (e' := e') (fun s hs => h s (List.mem_append_right _ hs)) n lim K
    simp only [pop, h1, h2]
  | mkf f a b =>
    have h1 := map_ev_congr (xs := a) (e := e) (e' := e') fun s hs => h s (by show s ∈ (a ++ b).flatMap Opd.rd; rw [List.flatMap_append]; exact List.mem_append_left _ hs)
    have h2 := map_ev_congr (xs := b) (e := e) (e' := e') fun s hs => h s (by show s ∈ (a ++ b).flatMap Opd.rd; rw [List.flatMap_append]; exact List.mem_append_right _ hs)
    have h3 : (∀ x ∈ a ++ b, isTup (x.ev e) = false) = (∀ x ∈ a ++ b, isTup (x.ev e') = false) := by
      refine propext ⟨fun k x hx => ?_, fun k x hx => ?_⟩
      · rw [← ev_congr (e := e) (e' := e') fun s hs => h s (List.mem_flatMap.2 ⟨x, hx, hs⟩)]; exact k x hx
      · rw [ev_congr (e := e) (e' := e') fun s hs => h s (List.mem_flatMap.2 ⟨x, hx, hs⟩)]; exact k x hx
    simp only [pop, h1, h2, h3]
  | gen g xs => simp only [pop, map_ev_congr (xs := xs) (e := e) (e' := e') h]
  | build zs szs ps =>
    obtain ⟨k1, k2, k3⟩ := fills_congr h zs szs
    simp only [pop, k1, k2]
  | buildA n k zs ps =>
    obtain ⟨k1, k2, k3⟩ := fills_congr h zs (List.replicate n k)
    simp only [pop, k1, k2, k3]

theorem bnd_det {e : Env} {lo hi : Option Opd} {n lim : Nat} {K : Nat → Nat → Prop} (h : bnd e lo hi n lim K) : ∃ l m, (∀ K', bnd e lo hi n lim K' = (True ∧ K' l m)) ∧ K l m := by
  unfold bnd at h
  split at h
  · rename_i l m h1 h2
    refine ⟨l.toNat, m.toNat, fun K' => ?_, h.2⟩
    unfold bnd
    simp only [h1, h2, h.1, true_and, and_self]
  · exact h.elim

/-- It yields one thing. -/
theorem pop_det {o : POp} {e : Env} {H : List Ob} {K : TV → Prop} (h : pop o e H K) : ∃ x, (∀ K' : TV → Prop, K' x → pop o e H K') ∧ K x := by
  cases o with
  | mov x => exact ⟨_, fun K' k => k, h⟩
  | iface t x => exact ⟨_, fun K' k => ⟨h.1, k⟩, h.2⟩
  | mkf f a b => exact ⟨_, fun K' k => ⟨h.1, k⟩, h.2⟩
  | build zs szs ps => exact ⟨_, fun K' k => ⟨h.1, k⟩, h.2⟩
  | gen g xs =>
    simp only [pop] at h
    split at h
    · rename_i y hy; exact ⟨y, fun K' k => by simp only [pop, hy]; exact k, h⟩
    · exact h.elim
  | buildA n k zs ps => exact ⟨_, fun K' k => ⟨h.1, h.2.1, k⟩, h.2.2⟩
  | slS x lo hi =>
    simp only [pop] at h
    split at h
    · rename_i s hs
      obtain ⟨l, m, h1, h2⟩ := bnd_det h
      exact ⟨_, fun K' k => by simp only [pop, hs, h1, true_and]; exact k, h2⟩
    · exact h.elim
  | slV k x lo hi =>
    simp only [pop] at h
    split at h
    · rename_i k' cs hs
      obtain ⟨rfl, h⟩ := h
      obtain ⟨l, m, h1, h2⟩ := bnd_det h
      exact ⟨_, fun K' k => by simp only [pop, hs, h1, true_and]; exact k, h2⟩
    · rename_i k' id ver p off n cp hs
      obtain ⟨rfl, h⟩ := h
      obtain ⟨l, m, h1, h2⟩ := bnd_det h
      exact ⟨_, fun K' k => by simp only [pop, hs, h1, true_and]; exact k, h2⟩
    · rename_i ad hs
      obtain ⟨l, m, h1, h2⟩ := bnd_det h
      exact ⟨_, fun K' k => by simp only [pop, hs, h1, true_and]; exact k, h2⟩
    · exact h.elim
  | slA n k x lo hi =>
    simp only [pop] at h
    split at h
    · rename_i n' k' cs hs
      obtain ⟨rfl, rfl, hn, h⟩ := h
      obtain ⟨l, m, h1, h2⟩ := bnd_det h
      exact ⟨_, fun K' k => by simp only [pop, hs, h1, true_and, hn]; exact k, h2⟩
    · rename_i id ver p hs
      split at h
      · rename_i v z hid
        obtain ⟨rfl, hn, h⟩ := h
        split at h
        · rename_i n' k' cs hg
          obtain ⟨rfl, rfl, h⟩ := h
          obtain ⟨l, m, h1, h2⟩ := bnd_det h
          exact ⟨_, fun K' k => by simp only [pop, hs, hid, hg, h1, true_and, hn]; exact k, h2⟩
        · exact h.elim
      · exact h.elim
    · exact h.elim
  | min x y =>
    simp only [pop] at h
    split at h
    · rename_i k a k' b h1 h2; exact ⟨_, fun K' k => by simp only [pop, h1, h2]; exact k, h⟩
    · exact h.elim
  | max x y =>
    simp only [pop] at h
    split at h
    · rename_i k a k' b h1 h2; exact ⟨_, fun K' k => by simp only [pop, h1, h2]; exact k, h⟩
    · exact h.elim
  | idx ag n k x y =>
    simp only [pop] at h
    split at h
    · rename_i n' k' cs ik j h1 h2
      obtain ⟨rfl, rfl, h3, h⟩ := h
      split at h
      · rename_i y h4; exact ⟨_, fun K' k => by simp only [pop, h1, h2, h4, true_and]; exact ⟨h3, h.1, k⟩, h.2⟩
      · exact h.elim
    · exact h.elim
  | _ =>
    simp only [pop] at h
    (repeat' split at h) <;> first
      | exact h.elim
      | exact ⟨_, fun K' k => by simp_all [pop], h⟩
      | exact ⟨_, fun K' k => by simp_all [pop], h.2⟩
      | exact ⟨_, fun K' k => by simp_all [pop], h.2.2⟩
      | exact ⟨_, fun K' k => by simp_all [pop], h.2.2.2⟩
      | exact h.2.elim
      | exact h.2.2.elim
      | exact h.2.2.2.elim
end Go.Proofs.Ytknphdcjopaaoaa
