import Derived.Test.YtfgljddikcghhaaDoorVzGrowP
namespace Go.Proofs.YtfgljddikcghhaaDoor
open Go.RowKit
variable [Globs]
set_option linter.unusedSectionVars false
set_option linter.unusedVariables false

section
omit [Globs]
/-- A partial map, at one more place. -/
def updM {α : Type} (f : List Bool → Option α) (q : List Bool) (x : α) : List Bool → Option α := fun p => if p = q then some x else f p
theorem updM_same {α : Type} {f : List Bool → Option α} {q : List Bool} {x : α} : updM f q x q = some x := by simp [updM]
theorem updM_other {α : Type} {f : List Bool → Option α} {q p : List Bool} {x : α} (h : p ≠ q) : updM f q x p = f p := by simp [updM, h]
/-- What stands at the end of some bits. -/
def valT (P C : List Bool → Option Nat) (q : List Bool) : Int := match C q with
 | some s => -1 - (s : Int)
 | none => match P q with
  | some a => (a : Int)
  | none => 0
/-- The tree T has places P and holds the code C. -/
structure InvT (T : List (Int × Int)) (P C : List Bool → Option Nat) : Prop where
 root : P [] = some 0
 lt : ∀ p a, P p = some a → a < T.length
 inj : ∀ p q a, P p = some a → P q = some a → p = q
 slot : ∀ p a b, P p = some a → slotT T a b = valT P C (p ++ [b])
 pre : ∀ p b, P (p ++ [b]) ≠ none → P p ≠ none
 cpre : ∀ c b, C (c ++ [b]) ≠ none → P c ≠ none
theorem app1_ne {p : List Bool} {b : Bool} : p ++ [b] ≠ [] := by simp
theorem app1_inj {p q : List Bool} {b c : Bool} (h : p ++ [b] = q ++ [c]) : p = q ∧ b = c := by
 have := List.append_inj' h rfl
 exact ⟨this.1, by simpa using this.2⟩
theorem slot_setT {T : List (Int × Int)} {a : Nat} {b : Bool} {v : Int} (ha : a < T.length) (a' : Nat) (b' : Bool) : slotT (setT T a b v) a' b' = if a' = a ∧ b' = b then v else slotT T a' b' := by
 obtain ⟨p, hp⟩ : ∃ p, T[a]? = some p := ⟨_, List.getElem?_eq_getElem ha⟩
 have hs : setT T a b v = T.set a (if b then (p.1, v) else (v, p.2)) := by unfold setT; rw [hp]
 rw [hs]
 unfold slotT
 by_cases e : a' = a
 ·subst e
  rw [List.getElem?_set_self ha, hp]
  cases b <;> cases b' <;> simp
 ·rw [List.getElem?_set_ne (Ne.symm e)]
  simp [e]
theorem slot_app {T : List (Int × Int)} {a : Nat} {b : Bool} {x : Int × Int} (ha : a < T.length) : slotT (T ++ [x]) a b = slotT T a b := by
 unfold slotT; rw [List.getElem?_append_left ha]
theorem slot_new {T : List (Int × Int)} {b : Bool} : slotT (T ++ [(0, 0)]) T.length b = 0 := by
 unfold slotT; simp
/-- The bits of a number, the greatest first. -/
def bitsM : Nat → Nat → List Bool
 | 0, _ => []
 | n + 1, v => (v / 2 ^ n % 2 == 1) :: bitsM n v
theorem bitsM_len : ∀ n v, (bitsM n v).length = n
 | 0, _ => rfl
 | n + 1, v => by rw [bitsM, List.length_cons, bitsM_len n v]
def valM (l : List Bool) : Nat := l.foldl (fun a b => a * 2 + (if b then 1 else 0)) 0
theorem addT_inv : ∀ (n : Nat) {T : List (Int × Int)} {P C : List Bool → Option Nat} {p : List Bool} {a code s : Nat}, InvT T P C → P p = some a → (∀ k, 1 ≤ k → k ≤ n → C (p ++ (bitsM (n + 1) code).take k) = none) →
  AddOk n T a code ∧ ∃ P', InvT (addT n T a code s) P' (updM C (p ++ bitsM (n + 1) code) s)
 | 0, T, P, C, p, a, code, s, h, hp, hk => by
  have ha := h.lt p a hp
  refine ⟨ha, P, ?_⟩
  have hb : bitsM (0 + 1) code = [code % 2 == 1] := by simp [bitsM]
  rw [hb, addT]
  generalize (code % 2 == 1) = b
  refine ⟨h.root, fun p' a' h1 => by rw [setT_len]; exact h.lt p' a' h1, h.inj, fun p' a' b' h1 => ?_, h.pre, fun c b' h1 => ?_⟩
  ·rw [slot_setT ha]
   unfold valT
   by_cases e : p' ++ [b'] = p ++ [b]
   ·obtain ⟨rfl, rfl⟩ := app1_inj e
    rw [hp] at h1; cases h1
    rw [if_pos ⟨rfl, rfl⟩, updM_same]
   ·rw [updM_other e, if_neg (fun hh => by
     obtain ⟨rfl, rfl⟩ := hh
     exact e (by rw [h.inj p' p a' h1 hp]))]
    exact h.slot p' a' b' h1
  ·by_cases e : c ++ [b'] = p ++ [b]
   ·obtain ⟨rfl, _⟩ := app1_inj e
    rw [hp]; simp
   ·rw [updM_other e] at h1
    exact h.cpre c b' h1
 | n + 1, T, P, C, p, a, code, s, h, hp, hk => by
  have ha := h.lt p a hp
  have hbits : bitsM (n + 1 + 1) code = (code / 2 ^ (n + 1) % 2 == 1) :: bitsM (n + 1) code := rfl
  rw [addT, AddOk]
  generalize hbd : (code / 2 ^ (n + 1) % 2 == 1) = b at *
  have hC : C (p ++ [b]) = none := by
   have := hk 1 (Nat.le_refl _) (by omega)
   rw [hbits, List.take_succ_cons, List.take_zero] at this
   exact this
  have hk' : ∀ k, 1 ≤ k → k ≤ n → C (p ++ [b] ++ (bitsM (n + 1) code).take k) = none := fun k h1 h2 => by
   have := hk (k + 1) (by omega) (by omega)
   rw [hbits, List.take_succ_cons] at this
   rw [List.append_assoc]; exact this
  have happ : p ++ bitsM (n + 1 + 1) code = p ++ [b] ++ bitsM (n + 1) code := by rw [hbits, List.append_assoc]; rfl
  have hsl := h.slot p a b hp
  rw [happ]
  cases hP : P (p ++ [b]) with
  | none =>
   have hsl0 : slotT T a b = 0 := by rw [hsl]; unfold valT; rw [hC, hP]
   rw [if_pos hsl0, if_pos hsl0]
   have ha2 : a < (T ++ [(0, 0)]).length := by rw [List.length_append]; omega
   have h2 : InvT (setT (T ++ [(0, 0)]) a b (T.length : Int)) (updM P (p ++ [b]) T.length) C := by
    refine ⟨?_, fun p' a' h1 => ?_, fun p' q' a' h1 h2 => ?_, fun p' a' b' h1 => ?_, fun p' b' h1 => ?_, fun c b' h1 => ?_⟩
    ·rw [updM_other (fun e => app1_ne e.symm)]; exact h.root
    ·rw [setT_len, List.length_append]
     by_cases e : p' = p ++ [b]
     ·subst e; rw [updM_same] at h1; cases h1; simp
     ·rw [updM_other e] at h1
      have := h.lt p' a' h1; simp; omega
    ·by_cases e : p' = p ++ [b]
     ·by_cases e2 : q' = p ++ [b]
      ·rw [e, e2]
      ·subst e; rw [updM_same] at h1; cases h1
       rw [updM_other e2] at h2
       have := h.lt q' _ h2; omega
     ·rw [updM_other e] at h1
      by_cases e2 : q' = p ++ [b]
      ·subst e2; rw [updM_same] at h2; cases h2
       have := h.lt p' _ h1; omega
      ·rw [updM_other e2] at h2
       exact h.inj p' q' a' h1 h2
    ·rw [slot_setT ha2]
     by_cases e : p' = p ++ [b]
     ·subst e; rw [updM_same] at h1; cases h1
      rw [if_neg (fun hh => by omega), slot_new]
      have c1 : C (p ++ [b] ++ [b']) = none := by
       refine Classical.byContradiction fun hh => ?_
       exact h.cpre _ _ hh hP
      have c2 : P (p ++ [b] ++ [b']) = none := by
       refine Classical.byContradiction fun hh => ?_
       exact h.pre _ _ hh hP
      unfold valT
      rw [c1, updM_other (fun e => by have := congrArg List.length e; simp at this), c2]
     ·rw [updM_other e] at h1
      have hl := h.lt p' a' h1
      by_cases e2 : p' ++ [b'] = p ++ [b]
      ·obtain ⟨rfl, rfl⟩ := app1_inj e2
       rw [hp] at h1; cases h1
       rw [if_pos ⟨rfl, rfl⟩]
       unfold valT
       rw [hC, updM_same]
      ·rw [if_neg (fun hh => by
        obtain ⟨rfl, rfl⟩ := hh
        exact e2 (by rw [h.inj p' p a' h1 hp])), slot_app hl, h.slot p' a' b' h1]
       unfold valT
       rw [updM_other e2]
    ·by_cases e : p' = p ++ [b]
     ·subst e; rw [updM_same]; simp
     ·rw [updM_other e]
      by_cases e2 : p' ++ [b'] = p ++ [b]
      ·obtain ⟨rfl, _⟩ := app1_inj e2
       rw [hp]; simp
      ·rw [updM_other e2] at h1
       exact h.pre p' b' h1
    ·by_cases e : c = p ++ [b]
     ·subst e; rw [updM_same]; simp
     ·rw [updM_other e]; exact h.cpre c b' h1
   obtain ⟨k1, P', k2⟩ := addT_inv n (s := s) h2 (p := p ++ [b]) updM_same hk'
   exact ⟨⟨ha, k1⟩, P', k2⟩
  | some a2 =>
   have hsl2 : slotT T a b = (a2 : Int) := by rw [hsl]; unfold valT; rw [hC, hP]
   have ha20 : a2 ≠ 0 := fun e => by
    subst e
    exact app1_ne (h.inj _ _ _ hP h.root)
   have hne : ¬ slotT T a b = 0 := by rw [hsl2]; omega
   rw [if_neg hne, if_neg hne, hsl2, Int.toNat_natCast]
   obtain ⟨k1, P', k2⟩ := addT_inv n (s := s) h (p := p ++ [b]) hP hk'
   exact ⟨⟨ha, by omega, k1⟩, P', k2⟩
/-- A symbol is looked for bit by bit. -/
def srch (C : List Bool → Option Nat) : List Bool → List Bool → Option (Nat × List Bool)
 | _, [] => none
 | p, b :: B => match C (p ++ [b]) with
  | some s => some (s, B)
  | none => srch C (p ++ [b]) B
theorem InvT.srch_none {T : List (Int × Int)} {P C : List Bool → Option Nat} (h : InvT T P C) : ∀ (B p : List Bool), P p = none → srch C p B = none
 | [], p, hp => rfl
 | b :: B, p, hp => by
  have c1 : C (p ++ [b]) = none := Classical.byContradiction fun hh => h.cpre _ _ hh hp
  have c2 : P (p ++ [b]) = none := Classical.byContradiction fun hh => h.pre _ _ hh hp
  rw [srch, c1]
  exact h.srch_none B _ c2
theorem InvT.sym {T : List (Int × Int)} {P C : List Bool → Option Nat} (h : InvT T P C) : ∀ (B p : List Bool) (a : Nat), P p = some a → symT T a B = srch C p B
 | [], p, a, hp => by rw [symT, srch]
 | b :: B, p, a, hp => by
  have ha := h.lt p a hp
  obtain ⟨x, hx⟩ : ∃ x, T[a]? = some x := ⟨_, List.getElem?_eq_getElem ha⟩
  have hs := h.slot p a b hp
  have hs2 : slotT T a b = if b then x.2 else x.1 := by unfold slotT; rw [hx]
  rw [symT, hx, srch]
  simp only [← hs2, hs]
  unfold valT
  cases hC : C (p ++ [b]) with
  | some s =>
   simp only
   rw [if_pos (by omega)]
   congr 2
   omega
  | none =>
   simp only
   cases hP : P (p ++ [b]) with
   | some a2 =>
    simp only
    have ha20 : a2 ≠ 0 := fun e => by
     subst e
     exact app1_ne (h.inj _ _ _ hP h.root)
    rw [if_neg (by omega), if_neg (by omega), Int.toNat_natCast]
    exact h.sym B _ a2 hP
   | none =>
    simp only
    rw [if_neg (by omega), if_pos trivial]
    exact (h.srch_none B _ hP).symm
end
end Go.Proofs.YtfgljddikcghhaaDoor

