/- Objects given away for good, or lent; a reading of what is lent; an object that grows. No program in sight. -/
import Derived.Test.YtknphdcjopaaoaaVmB
namespace Go.Proofs.Ytknphdcjopaaoaa
open Go.RowKit
set_option linter.unusedVariables false
set_option autoImplicit false

/-- A context in which nothing is one's own: what was is lent. -/
def Ctx.lent (c : Ctx) : Ctx := ⟨c.β, [], fun b => c.F b ∨ c.own b⟩

/-- What is found at the end of a way, sliced. -/
def elemsAt (p : List (Nat × Nat)) (k off n : Nat) (x : TV) : Option (List TV) := match getP p x with
  | some (.arr _ k' cs) => if k' = k ∧ off + n ≤ cs.length then some ((cs.drop off).take n) else none
  | _ => none

mutual
/-- How a reading looks where all of one's own objects are lent (g: what is done with what lies in a box). -/
def frzG (H : List Ob) (g : TV → Option TV) : TV → Option TV
  | .val v => some (.val v)
  | .sl k cs => some (.sl k cs)
  | .fp x => some (.fp x)
  | .any => some .any
  | .mp _ _ => none
  | .yl _ _ => none
  | .op id ver p => match H[id]? with
    | some (.obj v x) => if v = ver then (getP p x).bind fun y => (g y).map .fp else none
    | _ => none
  | .os k id ver p off n cp => match H[id]? with
    | some (.obj v x) => if v = ver then (elemsAt p k off n x).map (.sl k) else none
    | _ => none
  | .agg cs => (frzGL H g cs).map .agg
  | .arr n k cs => some (.arr n k cs)
  | .tup cs => (frzGL H g cs).map .tup
  | .ifc t x => (frzG H g x).map (.ifc t)
  | .fn f a b => match frzGL H g a, frzGL H g b with
    | some a, some b => some (.fn f a b)
    | _, _ => none
def frzGL (H : List Ob) (g : TV → Option TV) : List TV → Option (List TV)
  | [] => some []
  | x :: xs => match frzG H g x, frzGL H g xs with
    | some x, some xs => some (x :: xs)
    | _, _ => none
end
/-- The same, objects lying in objects d deep. -/
def frzD (H : List Ob) : Nat → TV → Option TV
  | 0 => frzG H fun _ => none
  | d + 1 => frzG H (frzD H d)
def frz (H : List Ob) (x : TV) : Option TV := frzD H 3 x
def frzL (H : List Ob) (xs : List TV) : Option (List TV) := frzGL H (frzD H 2) xs

theorem Mono.lent {c : Ctx} {w : World} : Mono c.bare w c.lent w :=
  ⟨fun b hb => ⟨.inl hb, rfl⟩, fun _ _ k => (Ctx.bare_has k).elim, fun _ _ => rfl⟩

/-- A part of a block, as cells that stay. -/
theorem cells_mid {w : World} {b : Nat} {pre a m q post : List Value} {t : TypeId} {fr : Nat × Nat} (h : w.heap[b]? = some (.cells (pre ++ (a ++ m ++ q) ++ post).toArray t fr)) : CellsAt w b (pre.length + a.length) m := by
  intro j u hu
  have hj : j < m.length := (List.getElem?_eq_some_iff.1 hu).1
  rw [cell_of_row w b _ _ t fr h]
  simp only [List.getElem?_toArray]
  rw [show pre ++ (a ++ m ++ q) ++ post = pre ++ (a ++ (m ++ (q ++ post))) from by simp]
  rw [List.getElem?_append_right (by omega), List.getElem?_append_right (by omega), List.getElem?_append_left (by omega), ← hu]
  congr 1; omega

theorem elemsAt_spec {c : Ctx} {w : World} {p : List (Nat × Nat)} {k off n : Nat} {x : TV} {cs : List TV} {us : List Value} (h : RepC c w x us) (hg : elemsAt p k off n x = some cs) :
    ∃ a m b, us = a ++ m ++ b ∧ a.length = span p + off * k ∧ RepCs c.bare w cs m ∧ (∀ x ∈ cs, width x = k) ∧ cs.length = n := by
  unfold elemsAt at hg
  split at hg
  · rename_i n' k' ds hd
    split at hg
    · rename_i hk
      cases hg
      obtain ⟨rfl, hlen⟩ := hk
      obtain ⟨a, m, b, rfl, h1, h2⟩ := getP_spec h hd
      rw [RepC] at h2
      obtain ⟨e1, e2, h3⟩ := h2
      rw [show ds = ds.take off ++ ((ds.drop off).take n ++ (ds.drop off).drop n) from by rw [List.take_append_drop, List.take_append_drop]] at h3
      obtain ⟨a', m', rfl, h4, h5⟩ := RepCs.split h3
      obtain ⟨b1, b2, rfl, h6, h7⟩ := RepCs.split h5
      refine ⟨a ++ a', b1, b2 ++ b, by simp, ?_, h6, fun x hx => e2 x (List.mem_of_mem_drop (List.mem_of_mem_take hx)), by rw [List.length_take, List.length_drop]; omega⟩
      rw [List.length_append, h1, h4.length, widths_all (fun x hx => e2 x (List.mem_of_mem_take hx)), List.length_take, Nat.min_eq_left (by omega)]
    · cases hg
  · cases hg

section frz
variable {c : Ctx} {w : World} {g : TV → Option TV}
mutual
theorem frzG_rep (hs : Sim c w) (hg : ∀ x x' vs, g x = some x' → RepC c w x vs → RepC c.lent w x' vs) : ∀ {x x' : TV} {us : List Value}, frzG c.H g x = some x' → RepC c w x us → RepC c.lent w x' us
  | .val y, x', v, hf, hr => by simp only [frzG, Option.some.injEq] at hf; subst hf; rw [RepC] at hr ⊢; exact hr
  | .any, x', v, hf, hr => by simp only [frzG, Option.some.injEq] at hf; subst hf; rw [RepC] at hr ⊢; exact hr
  | .mp _ _, x', v, hf, hr => by simp [frzG] at hf
  | .yl _ _, x', v, hf, hr => by simp [frzG] at hf
  | .sl k cs, x', v, hf, hr => by
    simp only [frzG, Option.some.injEq] at hf; subst hf
    exact RepC.mono Mono.lent (RepC.pure rfl hr)
  | .fp x, x', v, hf, hr => by
    simp only [frzG, Option.some.injEq] at hf; subst hf
    exact RepC.mono Mono.lent (RepC.pure rfl hr)
  | .arr n k cs, x', v, hf, hr => by
    simp only [frzG, Option.some.injEq] at hf; subst hf
    exact RepC.mono Mono.lent (RepC.pure rfl hr)
  | .op id ver p, x', v, hf, hr => by
    rw [RepC] at hr
    obtain ⟨hr1, b0, o0, hr2, hr3⟩ := hr
    rw [frzG] at hf
    split at hf
    · rename_i ver' x hid
      split at hf
      · rename_i e; subst e
        simp only [Option.bind_eq_some_iff, Option.map_eq_some_iff] at hf
        obtain ⟨y, hy, z, hz, rfl⟩ := hf
        rcases hs.ob id _ hid with ⟨h0, _⟩ | ⟨b, off, pre, vs, post, t, fr, h0, h1, h2, h3, h4⟩
        · rw [h0] at hr2; cases hr2
        rw [h0] at hr2
        obtain ⟨rfl, rfl⟩ : b = b0 ∧ off = o0 := by simpa using hr2
        obtain ⟨a, m, q, rfl, k1, k2⟩ := getP_spec h4 hy
        rw [RepC]
        refine ⟨b, off + span p, m, hr3, .inr ⟨id, _, off, hid, rfl, h0⟩, hg _ _ _ hz k2, ?_⟩
        rw [← h3, ← k1]; exact cells_mid h1
      · cases hf
    · cases hf
  | .os k id ver p off n cp, x', v, hf, hr => by
    rw [RepC] at hr
    obtain ⟨hr1, hr2⟩ := hr
    rw [frzG] at hf
    split at hf
    · rename_i ver' x hid
      split at hf
      · rename_i e; subst e
        simp only [Option.map_eq_some_iff] at hf
        obtain ⟨cs, hcs, rfl⟩ := hf
        rcases hr2 with ⟨rfl, a0, hr2, _⟩ | ⟨b0, o0, cap, t0, m0, hr2, hr3, hr4, hr5, hr6, hr7⟩
        · have : cs = [] := by
            unfold elemsAt at hcs
            split at hcs
            · split at hcs
              · cases hcs; simp
              · cases hcs
            · cases hcs
          subst this
          rw [RepC]
          exact ⟨by simp, .inl ⟨rfl, a0, 0, hr2, by omega⟩⟩
        rcases hs.ob id _ hid with ⟨h0, _⟩ | ⟨b, off', pre, vs, post, t, fr, h0, h1, h2, h3, h4⟩
        · rw [h0] at hr2; cases hr2
        rw [h0] at hr2
        obtain ⟨rfl, rfl⟩ : b = b0 ∧ off' = o0 := by simpa using hr2
        obtain ⟨a, m, q, rfl, k1, k2, k3, k4⟩ := elemsAt_spec h4 hcs
        rw [RepC]
        refine ⟨k3, .inr ⟨b, off' + span p + off * k, cap, m, by rw [k4]; exact hr3, by omega, hr5, .inr ⟨id, _, off', hid, rfl, h0⟩, RepCs.mono Mono.lent k2, ?_⟩⟩
        have e : off' + span p + off * k = pre.length + a.length := by rw [h3, k1]; omega
        rw [e]; exact cells_mid h1
      · cases hf
    · cases hf
  | .agg cs, x', v, hf, hr => by
    simp only [frzG, Option.map_eq_some_iff] at hf
    obtain ⟨ds, hds, rfl⟩ := hf
    rw [RepC] at hr ⊢
    exact frzGL_reps hs hg hds hr
  | .tup cs, x', v, hf, hr => by rw [RepC] at hr; exact hr.elim
  | .ifc t x, x', v, hf, hr => by
    simp only [frzG, Option.map_eq_some_iff] at hf
    obtain ⟨y, hy, rfl⟩ := hf
    rw [RepC] at hr ⊢
    obtain ⟨u, h1, vs, h2, h3⟩ := hr
    exact ⟨u, h1, vs, frzG_rep hs hg hy h2, by rw [h3]; exact frzG_mkV hy vs⟩
  | .fn f a b, x', v, hf, hr => by
    rw [frzG] at hf
    split at hf
    · rename_i a' b' ha hb
      cases hf
      rw [RepC] at hr ⊢
      obtain ⟨us, vs, h1, h2, h3⟩ := hr
      exact ⟨us, vs, h1, frzGL_rep hs hg ha h2, frzGL_rep hs hg hb h3⟩
    · cases hf
theorem frzGL_reps (hs : Sim c w) (hg : ∀ x x' vs, g x = some x' → RepC c w x vs → RepC c.lent w x' vs) : ∀ {xs xs' : List TV} {us : List Value}, frzGL c.H g xs = some xs' → RepCs c w xs us → RepCs c.lent w xs' us
  | [], xs', us, hf, hr => by simp only [frzGL, Option.some.injEq] at hf; subst hf; rw [RepCs] at hr ⊢; exact hr
  | x :: xs, xs', us, hf, hr => by
    rw [frzGL] at hf
    split at hf
    · rename_i y ys hy hys
      cases hf
      rw [RepCs] at hr ⊢
      obtain ⟨u, us, h1, h2, h3⟩ := hr
      exact ⟨u, us, h1, frzG_rep hs hg hy h2, frzGL_reps hs hg hys h3⟩
    · cases hf
theorem frzGL_rep (hs : Sim c w) (hg : ∀ x x' vs, g x = some x' → RepC c w x vs → RepC c.lent w x' vs) : ∀ {xs xs' : List TV} {vs : List Value}, frzGL c.H g xs = some xs' → RepL c w xs vs → RepL c.lent w xs' vs
  | [], xs', vs, hf, hr => by simp only [frzGL, Option.some.injEq] at hf; subst hf; rw [RepL] at hr ⊢; exact hr
  | x :: xs, xs', vs, hf, hr => by
    rw [frzGL] at hf
    split at hf
    · rename_i y ys hy hys
      cases hf
      rw [RepL] at hr ⊢
      obtain ⟨u, us, h1, h2, h3⟩ := hr
      refine ⟨u, us, h1, ?_, frzGL_rep hs hg hys h3⟩
      rcases h2 with rfl | rfl | ⟨as, h2, h4⟩
      · simp only [frzG, Option.some.injEq] at hy; subst hy; exact .inl rfl
      · simp only [frzG, Option.some.injEq] at hy; subst hy; exact .inr (.inl rfl)
      · exact .inr (.inr ⟨as, frzG_rep hs hg hy h2, by rw [h4]; exact frzG_mkV hy as⟩)
    · cases hf
theorem frzG_mkV : ∀ {x x' : TV} (hf : frzG c.H g x = some x') (us : List Value), mkV x us = mkV x' us
  | .val y, x', hf, us => by simp only [frzG, Option.some.injEq] at hf; subst hf; rfl
  | .any, x', hf, us => by simp only [frzG, Option.some.injEq] at hf; subst hf; rfl
  | .mp _ _, x', hf, us => by simp [frzG] at hf
  | .yl _ _, x', hf, us => by simp [frzG] at hf
  | .sl k cs, x', hf, us => by simp only [frzG, Option.some.injEq] at hf; subst hf; rfl
  | .fp x, x', hf, us => by simp only [frzG, Option.some.injEq] at hf; subst hf; rfl
  | .arr n k cs, x', hf, us => by simp only [frzG, Option.some.injEq] at hf; subst hf; rfl
  | .op id ver p, x', hf, us => by
    rw [frzG] at hf
    split at hf
    · split at hf
      · simp only [Option.bind_eq_some_iff] at hf
        obtain ⟨y, _, hf⟩ := hf
        simp only [Option.map_eq_some_iff] at hf
        obtain ⟨z, _, rfl⟩ := hf; rfl
      · cases hf
    · cases hf
  | .os k id ver p off n cp, x', hf, us => by
    rw [frzG] at hf
    split at hf
    · split at hf
      · simp only [Option.map_eq_some_iff] at hf
        obtain ⟨z, _, rfl⟩ := hf; rfl
      · cases hf
    · cases hf
  | .agg cs, x', hf, us => by
    simp only [frzG, Option.map_eq_some_iff] at hf
    obtain ⟨ds, hds, rfl⟩ := hf; rfl
  | .tup cs, x', hf, us => by
    simp only [frzG, Option.map_eq_some_iff] at hf
    obtain ⟨ds, hds, rfl⟩ := hf; rfl
  | .ifc t x, x', hf, us => by
    simp only [frzG, Option.map_eq_some_iff] at hf
    obtain ⟨y, hy, rfl⟩ := hf; rfl
  | .fn f a b, x', hf, us => by
    rw [frzG] at hf
    split at hf
    · cases hf; rfl
    · cases hf
end
theorem frzD_rep (hs : Sim c w) : ∀ (d : Nat) (x x' : TV) (vs : List Value), frzD c.H d x = some x' → RepC c w x vs → RepC c.lent w x' vs
  | 0, x, x', vs, hf, hr => frzG_rep hs (fun _ _ _ h => by cases h) hf hr
  | d + 1, x, x', vs, hf, hr => frzG_rep hs (frzD_rep hs d) hf hr
theorem frzL_rep (hs : Sim c w) {x x' : List TV} {v : List Value} (hf : frzL c.H x = some x') (hr : RepL c w x v) : RepL c.lent w x' v := frzGL_rep hs (frzD_rep hs 2) hf hr
theorem frz_rep (hs : Sim c w) {x x' : TV} {v : Value} (hf : frz c.H x = some x') (hr : Rep c w x v) : Rep c.lent w x' v := by
  rcases hr with (h | h | ⟨us, h, h'⟩) | ⟨xs, vs, rfl, h2, h3⟩
  · subst h; simp only [frz, frzD, frzG, Option.some.injEq] at hf; subst hf; exact Rep.any
  · subst h; simp only [frz, frzD, frzG, Option.some.injEq] at hf; subst hf; exact Rep.of_val
  · exact .inl (.inr (.inr ⟨us, frzD_rep hs 3 _ _ _ hf h, by rw [h']; exact frzG_mkV (w := w) (g := frzD c.H 2) hf us⟩))
  · simp only [frz, frzD, frzG, Option.map_eq_some_iff] at hf
    obtain ⟨ds, hds, rfl⟩ := hf
    exact .inr ⟨ds, vs, rfl, h2, frzGL_rep hs (frzD_rep hs 2) hds h3⟩
end frz

mutual
/-- No memory in it. -/
def scal : TV → Bool
  | .val _ => true
  | .any => true
  | .agg cs => scalL cs
  | .arr _ _ cs => scalL cs
  | .tup cs => scalL cs
  | .ifc _ x => scal x
  | .fn _ a b => scalL a && scalL b
  | _ => false
def scalL : List TV → Bool
  | [] => true
  | x :: xs => scal x && scalL xs
end
mutual
theorem scal_repC {c c' : Ctx} {w w' : World} : ∀ {x : TV} {us : List Value}, scal x = true → RepC c w x us → RepC c' w' x us
  | .val y, us, hf, hr => by rw [RepC] at hr ⊢; exact hr
  | .any, us, hf, hr => by rw [RepC] at hr ⊢; exact hr
  | .mp _ _, us, hf, hr => by simp [scal] at hf
  | .yl _ _, us, hf, hr => by simp [scal] at hf
  | .sl k cs, us, hf, hr => by simp [scal] at hf
  | .fp x, us, hf, hr => by simp [scal] at hf
  | .op id ver p, us, hf, hr => by simp [scal] at hf
  | .os k id ver p off n cp, us, hf, hr => by simp [scal] at hf
  | .arr n k cs, us, hf, hr => by rw [scal] at hf; rw [RepC] at hr ⊢; exact ⟨hr.1, hr.2.1, scalL_repCs hf hr.2.2⟩
  | .agg cs, us, hf, hr => by rw [scal] at hf; rw [RepC] at hr ⊢; exact scalL_repCs hf hr
  | .tup cs, us, hf, hr => by rw [RepC] at hr; exact hr.elim
  | .ifc t x, us, hf, hr => by
    rw [scal] at hf; rw [RepC] at hr ⊢
    obtain ⟨u, h1, vs, h2, h3⟩ := hr
    exact ⟨u, h1, vs, scal_repC hf h2, h3⟩
  | .fn f a b, us, hf, hr => by
    rw [scal, Bool.and_eq_true] at hf; rw [RepC] at hr ⊢
    obtain ⟨as, bs, h1, h2, h3⟩ := hr
    exact ⟨as, bs, h1, scalL_rep hf.1 h2, scalL_rep hf.2 h3⟩
theorem scalL_repCs {c c' : Ctx} {w w' : World} : ∀ {xs : List TV} {us : List Value}, scalL xs = true → RepCs c w xs us → RepCs c' w' xs us
  | [], us, hf, hr => by rw [RepCs] at hr ⊢; exact hr
  | x :: xs, us, hf, hr => by
    rw [scalL, Bool.and_eq_true] at hf; rw [RepCs] at hr ⊢
    obtain ⟨a, b, h1, h2, h3⟩ := hr
    exact ⟨a, b, h1, scal_repC hf.1 h2, scalL_repCs hf.2 h3⟩
theorem scalL_rep {c c' : Ctx} {w w' : World} : ∀ {xs : List TV} {vs : List Value}, scalL xs = true → RepL c w xs vs → RepL c' w' xs vs
  | [], us, hf, hr => by rw [RepL] at hr ⊢; exact hr
  | x :: xs, us, hf, hr => by
    rw [scalL, Bool.and_eq_true] at hf; rw [RepL] at hr ⊢
    obtain ⟨u, us, h1, h2, h3⟩ := hr
    refine ⟨u, us, h1, ?_, scalL_rep hf.2 h3⟩
    rcases h2 with h2 | h2 | ⟨as, h2, h4⟩
    · exact .inl h2
    · exact .inr (.inl h2)
    · exact .inr (.inr ⟨as, scal_repC hf.1 h2, h4⟩)
end

theorem scal_rep {c c' : Ctx} {w w' : World} {x : TV} {v : Value} (hx : scal x = true) (hr : Rep c w x v) : Rep c' w' x v := by
  rcases hr with (h | h | ⟨us, h, h'⟩) | ⟨xs, vs, rfl, h2, h3⟩
  · exact .inl (.inl h)
  · exact .inl (.inr (.inl h))
  · exact .inl (.inr (.inr ⟨us, scal_repC hx h, h'⟩))
  · rw [scal] at hx; exact .inr ⟨xs, vs, rfl, h2, scalL_rep hx h3⟩
theorem scalL_map {α : Type} (f : α → TV) (l : List α) (h : ∀ x, scal (f x) = true) : scalL (l.map f) = true := by
  induction l with
  | nil => rfl
  | cons x l ih => rw [List.map_cons, scalL, h, ih]; rfl
theorem pureL_map {α : Type} (f : α → TV) (l : List α) (h : ∀ x, pureT (f x) = true) : pureL (l.map f) = true := by
  induction l with
  | nil => rfl
  | cons x l ih => rw [List.map_cons, pureL, h, ih]; rfl

theorem Sim.lent {c : Ctx} {w : World} (h : Sim c w) : Sim c.lent w :=
  ⟨fun id o ho => by simp [Ctx.lent] at ho, fun i j x y b o o' hx => by simp [Ctx.lent] at hx, fun b hb => by obtain ⟨i, o, off, h1, _⟩ := hb; simp [Ctx.lent] at h1, fun b hb => hb.elim (h.lt b) h.own_lt, h.glob.keep fun b hb => ⟨.inl hb, rfl⟩⟩

/-- An object is given away: it stays as it is from now on. -/
theorem Sim.freeze {β : Nat → Nat → Option (Nat × Nat)} {H : List Ob} {F : Nat → Prop} {w : World} (hs : Sim ⟨β, H, F⟩ w) {id : Nat} {o : Ob} (ho : H[id]? = some o) (hl : o.live = true) :
    Sim ⟨β, H.set id (.gone o.ver), fun b => F b ∨ ∃ off, β id o.ver = some (b, off)⟩ w ∧ Later ⟨β, H, F⟩ w ⟨β, H.set id (.gone o.ver), fun b => F b ∨ ∃ off, β id o.ver = some (b, off)⟩ w := by
  have hid : id < H.length := (List.getElem?_eq_some_iff.1 ho).1
  have hown : ∀ b off, β id o.ver = some (b, off) → Ctx.own ⟨β, H, F⟩ b := fun b off e => ⟨id, o, off, ho, hl, e⟩
  have hget : ∀ i y, (H.set id (.gone o.ver))[i]? = some y → (i = id ∧ y = .gone o.ver) ∨ (i ≠ id ∧ H[i]? = some y) := by
    intro i y h
    rw [List.getElem?_set] at h
    split at h
    · rename_i e; try rw [if_pos hid] at h
      cases h; exact .inl ⟨e.symm, rfl⟩
    · rename_i e; exact .inr ⟨fun e' => e e'.symm, h⟩
  have hhas : ∀ i v, Ctx.has ⟨β, H, F⟩ i v → Ctx.has ⟨β, H.set id (.gone o.ver), fun b => F b ∨ ∃ off, β id o.ver = some (b, off)⟩ i v := by
    rintro i v ⟨y, h, k⟩
    by_cases e : i = id
    · subst e
      have h' : H[i]? = some y := h
      rw [ho] at h'; cases h'
      exact ⟨.gone o.ver, by simp [hid], k⟩
    · exact ⟨y, by show (H.set id _)[i]? = some y; rw [List.getElem?_set, if_neg fun h => e h.symm]; exact h, k⟩
  have hm : Mono ⟨β, H, F⟩ w ⟨β, H.set id (.gone o.ver), fun b => F b ∨ ∃ off, β id o.ver = some (b, off)⟩ w :=
    ⟨fun b hF => ⟨.inl hF, rfl⟩, fun i v h => ⟨hhas i v h, rfl⟩, fun b _ => rfl⟩
  have hownb : ∀ b, Ctx.own ⟨β, H.set id (.gone o.ver), fun b => F b ∨ ∃ off, β id o.ver = some (b, off)⟩ b → Ctx.own ⟨β, H, F⟩ b ∧ ∀ off, β id o.ver ≠ some (b, off) := by
    rintro b ⟨i, y, off, k1, k2, k3⟩
    rcases hget i y k1 with ⟨rfl, rfl⟩ | ⟨hne, h⟩
    · simp [Ob.live] at k2
    · exact ⟨⟨i, y, off, h, k2, k3⟩, fun off' e => hne (hs.inj i id y o b off off' h ho k2 hl k3 e)⟩
  refine ⟨⟨fun i y hy => ?_, fun i j x y b o1 o2 hx hy hlx hly e1 e2 => ?_, fun b k hF => ?_, fun b hF => hF.elim (hs.lt b) fun ⟨off, e⟩ => hs.own_lt (hown b off e), hs.glob.keep hm.stay⟩, ?_⟩
  · rcases hget i y hy with ⟨rfl, rfl⟩ | ⟨hne, h⟩
    · trivial
    · exact ObIs.mono hm ⟨y, h, Nat.le_refl _⟩ (fun _ _ _ _ => rfl) (hs.ob i y h)
  · rcases hget i x hx with ⟨rfl, rfl⟩ | ⟨hne, h⟩ <;> rcases hget j y hy with ⟨rfl, rfl⟩ | ⟨hne', h'⟩
    · rfl
    · simp [Ob.live] at hlx
    · simp [Ob.live] at hly
    · exact hs.inj i j x y b o1 o2 h h' hlx hly e1 e2
  · obtain ⟨h1, h2⟩ := hownb b k
    exact hF.elim (hs.apart b h1) fun ⟨off, e⟩ => h2 off e
  · exact ⟨rfl, rfl, rfl, Nat.le_refl _, fun i v k => ⟨hhas i v k, rfl⟩, fun b _ => rfl, fun b _ _ => rfl, fun _ h => .inl h, fun b _ h => h.elim .inl fun ⟨off, e⟩ => .inr (hown b off e), fun b _ h => (hownb b h).1⟩
end Go.Proofs.Ytknphdcjopaaoaa
