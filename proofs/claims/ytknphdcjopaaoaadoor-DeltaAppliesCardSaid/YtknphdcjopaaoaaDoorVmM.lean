/- The code of the machine of values, and what it asks: if its condition holds, the model's code goes well. No program in sight. -/
import Derived.Test.YtknphdcjopaaoaaDoorVmL
namespace Go.Proofs.YtknphdcjopaaoaaDoor
open Go.RowKit
set_option linter.unusedVariables false
set_option autoImplicit false

inductive VCode where
  | ops (l : List VO) (keep : List Nat)
  /-- the order is open; the first nA change no object, and the others wait for all -/
  | draw (nA : Nat) (l : List VO) (keep : List Nat)
  | skip
  | seq (a b : VCode)
  | cond (c : Opd) (a b : VCode)
  | block (id : Nat) (c : VCode)
  | loop (live : List Nat) (c : VCode)
  | exit (id : Nat)
  | ret
  | scope (c : VCode)
  /-- (nothing is done) a nil slice in a slot is looked at as an object of one's own that has no cells yet -/
  | own (s k : Nat) (c : VCode)
  /-- (nothing is done) the same of a nil slice within an object -/
  | ownB (s : Nat) (p : List (Nat × Nat)) (k : Nat) (c : VCode)
  deriving Inhabited

/-- Without what was laid beside it. -/
def er : VCode → VCode
  | .ops l _ => .ops l []
  | .draw n l _ => .draw n l []
  | .seq a b => .seq (er a) (er b)
  | .cond c a b => .cond c (er a) (er b)
  | .block id c => .block id (er c)
  | .loop _ c => .loop [] (er c)
  | .scope c => .scope (er c)
  | .own _ _ c => er c
  | .ownB _ _ _ c => er c
  | .skip => .skip
  | .exit id => .exit id
  | .ret => .ret

def trC (P : Program) (N : Nat) : Code → Option VCode
  | .skip => some .skip
  | .region _ ops false => (trL P N ops.toList ops.toList).map fun l => .ops l []
  | .region _ ops true => match trL P N ops.toList ops.toList with
    | some l => if P.follows .mixedOrders then ((List.range (ops.size + 1)).find? (chkDraw ops.toList l)).map fun n => .draw n l [] else none
    | none => none
  | .seq a b => match trC P N a, trC P N b with
    | some a, some b => some (.seq a b)
    | _, _ => none
  | .cond c a b => match trC P N a, trC P N b with
    | some a, some b => some (.cond (trO c) a b)
    | _, _ => none
  | .block id c => (trC P N c).map (.block id)
  | .loop c => (trC P N c).map (.loop [])
  | .exit id => some (.exit id)
  | .ret => some .ret
  | .scope c => (trC P N c).map .scope
  | _ => none

inductive VEx where
  | nor
  | exit (id : Nat)
  | ret

def VEx.ex : VEx → Exit
  | .nor => .normal
  | .exit id => .exit id
  | .ret => .ret

mutual
/-- It refers to no object from g on. -/
def belowT (g : Nat) : TV → Bool
  | .op id _ _ => decide (id < g)
  | .os _ id _ _ _ _ _ => decide (id < g)
  | .mp id _ => decide (id < g)
  | .agg cs => belowL g cs
  | .tup cs => belowL g cs
  | .ifc _ x => belowT g x
  | .fn _ a b => belowL g a && belowL g b
  | _ => true
def belowL (g : Nat) : List TV → Bool
  | [] => true
  | x :: xs => belowT g x && belowL g xs
end
def belowE (g : Nat) : Env → Bool
  | [] => true
  | (_, x) :: e => belowT g x && belowE g e
def belowH (g : Nat) : List Ob → Bool
  | [] => true
  | .obj _ x :: H => belowT g x && belowH g H
  | .gone _ :: H => belowH g H

def vwp (P : Program) : VCode → (VEx → Env → List Ob → Prop) → Env → List Ob → Prop
  | .ops l kp, Q, e, H => vops P l (fun e H => Q .nor (forget kp e) H) e H
  | .draw n l kp, Q, e, H => vq P (l.take n) (fun e => vops P (l.drop n) (fun e H => Q .nor (forget kp e) H) e H) e H
  | .skip, Q, e, H => Q .nor e H
  | .seq a b, Q, e, H => vwp P a (fun x e H => match x with | .nor => vwp P b Q e H | .exit i => Q (.exit i) e H | .ret => Q .ret e H) e H
  | .cond c a b, Q, e, H => match c.ev e with
    | .val (.bool t) => if t = true then vwp P a Q e H else vwp P b Q e H
    | _ => False
  | .block id c, Q, e, H => vwp P c (fun x e H => match x with | .nor => Q .nor e H | .exit i => if i = id then Q .nor e H else Q (.exit i) e H | .ret => Q .ret e H) e H
  | .loop lv c, Q, e, H0 => ∃ (I : Nat → Env → List Ob → Prop) (n : Nat), I n (forget lv e) H0 ∧
      ∀ n e H, I n e H → vwp P c (fun x e H => match x with | .nor => ∃ m g, m < n ∧ (H0.length ≤ g ∧ (H.length ≤ g ∨ (belowE g (forget lv e) = true ∧ belowH g (H.take g) = true))) ∧ I m (forget lv e) (H.take g) | .exit i => Q (.exit i) e H | .ret => Q .ret e H) e H
  | .exit id, Q, e, H => Q (.exit id) e H
  | .ret, Q, e, H => Q .ret e H
  | .scope c, Q, e, H => vwp P c Q e H
  | .own s k c, Q, e, H => match get e s with
    | .val (.slice none 0 0) => vwp P c Q ((s, .os k H.length 0 [] 0 0 0) :: e) (H ++ [.obj 0 (.arr 0 k [])])
    | _ => vwp P c Q e H
  | .ownB s p k c, Q, e, H => match get e s with
    | .op id ver p0 => (match H[id]? with
      | some (.obj v x) => v = ver ∧ (match getP (p0 ++ p) x with
        | some (.val (.slice none 0 0)) => (match setP (p0 ++ p) x (.os k H.length 0 [] 0 0 0) with
          | some x' => vwp P c Q e (H.set id (.obj ver x') ++ [.obj 0 (.arr 0 k [])])
          | none => False)
        | _ => vwp P c Q e H)
      | _ => False)
    | _ => False

section sound
variable {P : Program}
/-- The same cells, read otherwise. -/
theorem setP_same {c : Ctx} {w : World} : ∀ {p : List (Nat × Nat)} {x y z x' : TV} {us : List Value}, RepC c w x us → getP p x = some z → (∀ m, RepC c w z m → RepC c w y m) → setP p x y = some x' → RepC c w x' us := by
  intro p x y z x' us h hg hm hs
  obtain ⟨a, m, b, rfl, h1, h2⟩ := getP_spec h hg
  obtain ⟨a', m', b', e, h3, h4, h5, _⟩ := setP_spec h hs (hm m h2)
  have e1 : a = a' := by
    have := congrArg (List.take a.length) e
    rw [List.append_assoc, List.append_assoc, List.take_left] at this
    rw [this, List.take_left' (by omega)]
  subst e1
  rw [List.append_assoc, List.append_assoc] at e
  have e2 := List.append_cancel_left e
  have e3 : m = m' := by
    have := congrArg (List.take m.length) e2
    rw [List.take_left] at this
    rw [this, List.take_left' (by omega)]
  subst e3
  have e4 := List.append_cancel_left e2
  subst e4
  exact h5

theorem Sim.own {β : Nat → Nat → Option (Nat × Nat)} {H : List Ob} {F : Nat → Prop} {w : World} (hs : Sim ⟨β, H, F⟩ w) (k : Nat) :
    Sim ⟨upd β H.length 0 none, H ++ [.obj 0 (.arr 0 k [])], F⟩ w ∧ Later ⟨β, H, F⟩ w ⟨upd β H.length 0 none, H ++ [.obj 0 (.arr 0 k [])], F⟩ w ∧
      RepC ⟨upd β H.length 0 none, H ++ [.obj 0 (.arr 0 k [])], F⟩ w (.os k H.length 0 [] 0 0 0) [.slice none 0 0] := by
  obtain ⟨k1, k2⟩ := hs.newNone (x := .arr 0 k []) (by rw [RepC]; exact ⟨rfl, by simp, by rw [RepCs]⟩)
  exact ⟨k1, k2, by rw [RepC]; exact ⟨has_new _ _ _ _ _ (Nat.le_refl _), .inl ⟨rfl, none, rfl, rfl⟩⟩⟩

/-- Objects that nobody knows any more are forgotten. -/
def Ctx.cut (c : Ctx) (g : Nat) : Ctx := ⟨c.β, c.H.take g, c.F⟩
theorem Ctx.cut_has {c : Ctx} {g id ver : Nat} (h : c.has id ver) (hg : id < g) : (c.cut g).has id ver := by
  obtain ⟨o, h1, h2⟩ := h
  exact ⟨o, by show (c.H.take g)[id]? = some o; rw [List.getElem?_take, if_pos hg]; exact h1, h2⟩
theorem Ctx.cut_get {c : Ctx} {g id : Nat} {o : Ob} (h : (c.cut g).H[id]? = some o) : id < g ∧ c.H[id]? = some o := by
  have h' : (c.H.take g)[id]? = some o := h
  rw [List.getElem?_take] at h'
  split at h'
  · exact ⟨‹_›, h'⟩
  · cases h'
mutual
theorem RepC.cut {c : Ctx} {w : World} {g : Nat} : ∀ {x : TV} {us : List Value}, belowT g x = true → RepC c w x us → RepC (c.cut g) w x us
  | .val y, us, hf, hr => by rw [RepC] at hr ⊢; exact hr
  | .any, us, hf, hr => by rw [RepC] at hr ⊢; exact hr
  | .sl k cs, us, hf, hr => by rw [RepC] at hr ⊢; exact hr
  | .fp x, us, hf, hr => by rw [RepC] at hr ⊢; exact hr
  | .arr n k cs, us, hf, hr => by rw [RepC] at hr ⊢; exact hr
  | .op id ver p, us, hf, hr => by
    rw [belowT, decide_eq_true_eq] at hf; rw [RepC] at hr ⊢; exact ⟨Ctx.cut_has hr.1 hf, hr.2⟩
  | .os k id ver p off n cp, us, hf, hr => by
    rw [belowT, decide_eq_true_eq] at hf; rw [RepC] at hr ⊢; exact ⟨Ctx.cut_has hr.1 hf, hr.2⟩
  | .mp id ver, us, hf, hr => by
    rw [belowT, decide_eq_true_eq] at hf; rw [RepC] at hr ⊢; exact ⟨Ctx.cut_has hr.1 hf, hr.2⟩
  | .agg cs, us, hf, hr => by rw [belowT] at hf; rw [RepC] at hr ⊢; exact RepCs.cut hf hr
  | .tup cs, us, hf, hr => by rw [RepC] at hr; exact hr.elim
  | .ifc t x, us, hf, hr => by
    rw [belowT] at hf; rw [RepC] at hr ⊢
    obtain ⟨u, h1, vs, h2, h3⟩ := hr
    exact ⟨u, h1, vs, RepC.cut hf h2, h3⟩
  | .fn f a b, us, hf, hr => by
    rw [belowT, Bool.and_eq_true] at hf; rw [RepC] at hr ⊢
    obtain ⟨as, bs, h1, h2, h3⟩ := hr
    exact ⟨as, bs, h1, RepL.cut hf.1 h2, RepL.cut hf.2 h3⟩
theorem RepCs.cut {c : Ctx} {w : World} {g : Nat} : ∀ {xs : List TV} {us : List Value}, belowL g xs = true → RepCs c w xs us → RepCs (c.cut g) w xs us
  | [], us, hf, hr => by rw [RepCs] at hr ⊢; exact hr
  | x :: xs, us, hf, hr => by
    rw [belowL, Bool.and_eq_true] at hf; rw [RepCs] at hr ⊢
    obtain ⟨a, b, h1, h2, h3⟩ := hr
    exact ⟨a, b, h1, RepC.cut hf.1 h2, RepCs.cut hf.2 h3⟩
theorem RepL.cut {c : Ctx} {w : World} {g : Nat} : ∀ {xs : List TV} {us : List Value}, belowL g xs = true → RepL c w xs us → RepL (c.cut g) w xs us
  | [], us, hf, hr => by rw [RepL] at hr ⊢; exact hr
  | x :: xs, us, hf, hr => by
    rw [belowL, Bool.and_eq_true] at hf; rw [RepL] at hr ⊢
    obtain ⟨u, us, h1, h2, h3⟩ := hr
    refine ⟨u, us, h1, ?_, RepL.cut hf.2 h3⟩
    rcases h2 with h2 | h2 | ⟨as, h2, h4⟩
    · exact .inl h2
    · exact .inr (.inl h2)
    · exact .inr (.inr ⟨as, RepC.cut hf.1 h2, h4⟩)
end
theorem Rep.cut {c : Ctx} {w : World} {g : Nat} {x : TV} {v : Value} (hf : belowT g x = true) (hr : Rep c w x v) : Rep (c.cut g) w x v := by
  rcases hr with (h | h | ⟨us, h, h'⟩) | ⟨xs, vs, rfl, h2, h3⟩
  · exact .inl (.inl h)
  · exact .inl (.inr (.inl h))
  · exact .inl (.inr (.inr ⟨us, RepC.cut hf h, h'⟩))
  · rw [belowT] at hf; exact .inr ⟨xs, vs, rfl, h2, RepL.cut hf h3⟩
theorem belowE_get {g : Nat} : ∀ {e : Env}, belowE g e = true → ∀ s, belowT g (get e s) = true
  | [], _, s => rfl
  | (k, x) :: e, h, s => by
    rw [belowE, Bool.and_eq_true] at h
    rw [get_cons]
    split
    · exact h.1
    · exact belowE_get h.2 s
theorem belowH_get {g : Nat} : ∀ {H : List Ob}, belowH g H = true → ∀ (i v : Nat) (x : TV), H[i]? = some (.obj v x) → belowT g x = true
  | [], _, i, v, x, h => by simp at h
  | o :: H, h, i, v, x, hi => by
    cases i with
    | zero => simp at hi; subst hi; rw [belowH, Bool.and_eq_true] at h; exact h.1
    | succ i =>
      have h' : belowH g H = true := by
        cases o with
        | obj v' y => rw [belowH, Bool.and_eq_true] at h; exact h.2
        | gone v' => rw [belowH] at h; exact h
      exact belowH_get h' i v x (by simpa using hi)
theorem Sim.cut {c : Ctx} {w : World} {g : Nat} (hs : Sim c w) (hg : belowH g (c.H.take g) = true) : Sim (c.cut g) w := by
  have hown : ∀ b, (c.cut g).own b → c.own b := by
    rintro b ⟨i, o, off, h1, h2, h3⟩
    exact ⟨i, o, off, (Ctx.cut_get h1).2, h2, h3⟩
  refine ⟨fun id o ho => ?_, fun i j x y b o o' hx hy hlx hly e e' => hs.inj i j x y b o o' (Ctx.cut_get hx).2 (Ctx.cut_get hy).2 hlx hly e e', fun b hb => hs.apart b (hown b hb), hs.lt, hs.glob⟩
  have h1 := hs.ob id o (Ctx.cut_get ho).2
  cases o with
  | gone v => trivial
  | obj v x =>
    have hb := belowH_get hg id v x ho
    rcases h1 with ⟨h0, h4⟩ | ⟨b, off, pre, vs, post, t, fr, h0, h1, h2, h3, h4⟩
    · exact .inl ⟨h0, RepC.cut hb h4⟩
    · exact .inr ⟨b, off, pre, vs, post, t, fr, h0, h1, h2, h3, RepC.cut hb h4⟩
theorem Later.cut {c0 c : Ctx} {w0 w : World} {g : Nat} (hl : Later c0 w0 c w) (hg : c0.H.length ≤ g) : Later c0 w0 (c.cut g) w :=
  ⟨hl.os, hl.tape, hl.output, hl.size, fun id ver h => by
    obtain ⟨h1, h2⟩ := hl.has id ver h
    exact ⟨Ctx.cut_has h1 (Nat.lt_of_lt_of_le (Ctx.has_lt h) hg), h2⟩, hl.shape, hl.same, hl.keepF, hl.oldF, fun b hb ⟨i, o, off, h1, h2, h3⟩ => hl.oldOwn b hb ⟨i, o, off, (Ctx.cut_get h1).2, h2, h3⟩⟩

theorem vwp_sound {N : Nat} : ∀ (vc : VCode) {code : Code}, trC P N code = some (er vc) → ∀ {Q : VEx → Env → List Ob → Prop} {e : Env} {H : List Ob} {β : Nat → Nat → Option (Nat × Nat)} {F : Nat → Prop} {w : World} {a : Act} {QQ : Exit → Act → World → Prop},
    vwp P vc Q e H → Sim ⟨β, H, F⟩ w → Fr N ⟨β, H, F⟩ w e a →
    (∀ x e' H' β' F' w' a', Q x e' H' → Sim ⟨β', H', F'⟩ w' → Fr N ⟨β', H', F'⟩ w' e' a' → Later ⟨β, H, F⟩ w ⟨β', H', F'⟩ w' → QQ x.ex a' w') → code.wp P QQ a w := by
  intro vc
  have inv : ∀ {code : Code} {v : VCode}, trC P N code = some v → True := fun _ => trivial
  induction vc with
  | ops l kp =>
    intro code ht Q e H β F w a QQ h hs hf hk
    rw [er] at ht
    cases code with
    | region id ops d =>
      cases d with
      | true => simp only [trC] at ht; split at ht <;> (try split at ht) <;> simp at ht
      | false =>
        simp only [trC, Option.map_eq_some_iff, VCode.ops.injEq, and_true] at ht
        obtain ⟨l', hl, rfl⟩ := ht
        rw [vwp] at h
        exact wp_region_list (vops_sound hl h hs hf fun e' H' β' F' w' a' k1 k2 k3 k4 => hk .nor _ _ _ _ _ _ k1 k2 (k3.forget kp) k4)
    | seq x y => simp only [trC] at ht; split at ht <;> simp at ht
    | cond c x y => simp only [trC] at ht; split at ht <;> simp at ht
    | _ => simp [trC] at ht
  | draw n l kp =>
    intro code ht Q e H β F w a QQ h hs hf hk
    rw [er] at ht
    cases code with
    | region id ops d =>
      cases d with
      | false => simp [trC] at ht
      | true =>
        simp only [trC] at ht
        split at ht
        · rename_i l' hl
          split at ht
          · rename_i hm
            simp only [Option.map_eq_some_iff, VCode.draw.injEq, and_true] at ht
            obtain ⟨n', hn, rfl, rfl⟩ := ht
            rw [vwp] at h
            exact draw_sound hm hl (List.find?_some hn) h hs hf fun e' H' β' F' w' a' k1 k2 k3 k4 => hk .nor _ _ _ _ _ _ k1 k2 (k3.forget kp) k4
          · cases ht
        · cases ht
    | seq x y => simp only [trC] at ht; split at ht <;> simp at ht
    | cond c x y => simp only [trC] at ht; split at ht <;> simp at ht
    | _ => simp [trC] at ht
  | skip =>
    intro code ht Q e H β F w a QQ h hs hf hk
    rw [er] at ht
    cases code with
    | skip => exact wp_skip (hk .nor _ _ _ _ _ _ h hs hf (Later.refl _ _))
    | region id ops d =>
      cases d
      · simp [trC] at ht
      · simp only [trC] at ht; split at ht <;> (try split at ht) <;> simp at ht
    | seq x y => simp only [trC] at ht; split at ht <;> simp at ht
    | cond c x y => simp only [trC] at ht; split at ht <;> simp at ht
    | _ => simp [trC] at ht
  | seq x y ihx ihy =>
    intro code ht Q e H β F w a QQ h hs hf hk
    rw [er] at ht
    cases code with
    | region id ops d =>
      cases d
      · simp [trC] at ht
      · simp only [trC] at ht; split at ht <;> (try split at ht) <;> simp at ht
    | seq cx cy =>
      simp only [trC] at ht
      split at ht
      · rename_i vx vy hx hy
        simp only [Option.some.injEq, VCode.seq.injEq] at ht
        obtain ⟨rfl, rfl⟩ := ht
        rw [vwp] at h
        refine wp_seq (ihx hx h hs hf ?_)
        intro x e' H' β' F' w' a' k1 k2 k3 k4
        cases x with
        | nor => exact ihy hy k1 k2 k3 fun x e2 H2 β2 F2 w2 a2 m1 m2 m3 m4 => hk _ _ _ _ _ _ _ m1 m2 m3 (k4.trans m4)
        | exit i => exact hk (.exit i) _ _ _ _ _ _ k1 k2 k3 k4
        | ret => exact hk .ret _ _ _ _ _ _ k1 k2 k3 k4
      · simp at ht
    | cond c x y => simp only [trC] at ht; split at ht <;> simp at ht
    | _ => simp [trC] at ht
  | cond c x y ihx ihy =>
    intro code ht Q e H β F w a QQ h hs hf hk
    rw [er] at ht
    cases code with
    | region id ops d =>
      cases d
      · simp [trC] at ht
      · simp only [trC] at ht; split at ht <;> (try split at ht) <;> simp at ht
    | seq x y => simp only [trC] at ht; split at ht <;> simp at ht
    | cond cc cx cy =>
      simp only [trC] at ht
      split at ht
      · rename_i vx vy hx hy
        simp only [Option.some.injEq, VCode.cond.injEq] at ht
        obtain ⟨rfl, rfl, rfl⟩ := ht
        rw [vwp] at h
        split at h
        · rename_i t hc
          refine wp_cond_split (hf.env.val hc) (fun htt => ?_) (fun htf => ?_)
          · rw [if_pos htt] at h; exact ihx hx h hs hf hk
          · rw [if_neg (by rw [htf]; simp)] at h; exact ihy hy h hs hf hk
        · exact h.elim
      · simp at ht
    | _ => simp [trC] at ht
  | block id x ih =>
    intro code ht Q e H β F w a QQ h hs hf hk
    rw [er] at ht
    cases code with
    | region id ops d =>
      cases d
      · simp [trC] at ht
      · simp only [trC] at ht; split at ht <;> (try split at ht) <;> simp at ht
    | seq x y => simp only [trC] at ht; split at ht <;> simp at ht
    | cond c x y => simp only [trC] at ht; split at ht <;> simp at ht
    | block id' c =>
      simp only [trC, Option.map_eq_some_iff, VCode.block.injEq] at ht
      obtain ⟨vx, hx, rfl, rfl⟩ := ht
      rw [vwp] at h
      refine wp_block (ih hx h hs hf ?_)
      intro x e' H' β' F' w' a' k1 k2 k3 k4
      cases x with
      | nor => exact hk .nor _ _ _ _ _ _ k1 k2 k3 k4
      | exit i =>
        show Exit.inBlock _ QQ (.exit i) a' w'
        simp only [Exit.inBlock]
        simp only at k1
        split at k1
        · rename_i hi; rw [if_pos hi]; exact hk .nor _ _ _ _ _ _ k1 k2 k3 k4
        · rename_i hi; rw [if_neg hi]; exact hk (.exit i) _ _ _ _ _ _ k1 k2 k3 k4
      | ret => exact hk .ret _ _ _ _ _ _ k1 k2 k3 k4
    | _ => simp [trC] at ht
  | loop lv x ih =>
    intro code ht Q e H β F w a QQ h hs hf hk
    rw [er] at ht
    cases code with
    | region id ops d =>
      cases d
      · simp [trC] at ht
      · simp only [trC] at ht; split at ht <;> (try split at ht) <;> simp at ht
    | seq x y => simp only [trC] at ht; split at ht <;> simp at ht
    | cond c x y => simp only [trC] at ht; split at ht <;> simp at ht
    | loop c =>
      simp only [trC, Option.map_eq_some_iff, VCode.loop.injEq] at ht
      obtain ⟨vx, hx, _, rfl⟩ := ht
      rw [vwp] at h
      obtain ⟨I, n, h0, hstep⟩ := h
      refine wp_loop_ghost (fun n a' w' => ∃ e' H' β' F', I n e' H' ∧ Sim ⟨β', H', F'⟩ w' ∧ Fr N ⟨β', H', F'⟩ w' e' a' ∧ Later ⟨β, H, F⟩ w ⟨β', H', F'⟩ w') n ⟨_, _, _, _, h0, hs, hf.forget lv, Later.refl _ _⟩ ?_
      rintro n a' w' ⟨e', H', β', F', k1, k2, k3, k4⟩
      refine ih hx (hstep n e' H' k1) k2 k3 ?_
      intro x e2 H2 β2 F2 w2 a2 m1 m2 m3 m4
      cases x with
      | nor =>
        obtain ⟨m, g, hm, ⟨hg, hb⟩, hI⟩ := m1
        have hf3 := m3.forget lv
        rcases hb with hle | ⟨hbe, hbh⟩
        · rw [List.take_of_length_le hle] at hI
          exact ⟨m, hm, _, _, _, _, hI, m2, hf3, k4.trans m4⟩
        exact ⟨m, hm, _, _, _, _, hI, m2.cut hbh, ⟨⟨fun s => Rep.cut (belowE_get hbe s) (hf3.env.1 s), hf3.env.2⟩, hf3.size, hf3.defers⟩, (k4.trans m4).cut hg⟩
      | exit i => exact hk (.exit i) _ _ _ _ _ _ m1 m2 m3 (k4.trans m4)
      | ret => exact hk .ret _ _ _ _ _ _ m1 m2 m3 (k4.trans m4)
    | _ => simp [trC] at ht
  | exit id =>
    intro code ht Q e H β F w a QQ h hs hf hk
    rw [er] at ht
    cases code with
    | region id ops d =>
      cases d
      · simp [trC] at ht
      · simp only [trC] at ht; split at ht <;> (try split at ht) <;> simp at ht
    | seq x y => simp only [trC] at ht; split at ht <;> simp at ht
    | cond c x y => simp only [trC] at ht; split at ht <;> simp at ht
    | exit id' =>
      simp only [trC, Option.some.injEq, VCode.exit.injEq] at ht; subst ht
      exact wp_exit (hk (.exit _) _ _ _ _ _ _ h hs hf (Later.refl _ _))
    | _ => simp [trC] at ht
  | ret =>
    intro code ht Q e H β F w a QQ h hs hf hk
    rw [er] at ht
    cases code with
    | region id ops d =>
      cases d
      · simp [trC] at ht
      · simp only [trC] at ht; split at ht <;> (try split at ht) <;> simp at ht
    | seq x y => simp only [trC] at ht; split at ht <;> simp at ht
    | cond c x y => simp only [trC] at ht; split at ht <;> simp at ht
    | ret => exact wp_ret (hk .ret _ _ _ _ _ _ h hs hf (Later.refl _ _))
    | _ => simp [trC] at ht
  | scope x ih =>
    intro code ht Q e H β F w a QQ h hs hf hk
    rw [er] at ht
    cases code with
    | region id ops d =>
      cases d
      · simp [trC] at ht
      · simp only [trC] at ht; split at ht <;> (try split at ht) <;> simp at ht
    | seq x y => simp only [trC] at ht; split at ht <;> simp at ht
    | cond c x y => simp only [trC] at ht; split at ht <;> simp at ht
    | scope c =>
      simp only [trC, Option.map_eq_some_iff, VCode.scope.injEq] at ht
      obtain ⟨vx, hx, rfl⟩ := ht
      rw [vwp] at h
      refine wp_scope_straight (ih hx h hs hf ?_)
      intro x e' H' β' F' w' a' k1 k2 k3 k4
      cases x with
      | nor => exact hk .nor _ _ _ _ _ _ k1 k2 k3 k4
      | exit i => exact hk (.exit i) _ _ _ _ _ _ k1 k2 k3 k4
      | ret => exact hk .ret _ _ _ _ _ _ k1 k2 k3 k4
    | _ => simp [trC] at ht
  | own s k x ih =>
    intro code ht Q e H β F w a QQ h hs hf hk
    rw [er] at ht
    rw [vwp] at h
    split at h
    · rename_i hg
      obtain ⟨k1, k2, k3⟩ := hs.own k
      have hv : a.tmps.getD s undef = .slice none 0 0 := by
        have := hf.env.1 s; rw [hg, Rep.val] at this; exact this
      refine ih ht h k1 ⟨⟨fun s' => ?_, k1.glob⟩, hf.size, hf.defers⟩ fun x' e' H' β' F' w' a' m1 m2 m3 m4 => hk x' e' H' β' F' w' a' m1 m2 m3 (k2.trans m4)
      rw [get_cons]
      by_cases hss : s = s'
      · subst hss; rw [if_pos rfl, hv]; exact Rep.of1 k3 (by simp) (by simp)
      · rw [if_neg hss]; exact Rep.mono (k2.mono hs) (hf.env.1 s')
    · exact ih ht h hs hf hk
  | ownB s p k x ih =>
    intro code ht Q e H β F w a QQ h hs hf hk
    rw [er] at ht
    rw [vwp] at h
    split at h
    · rename_i id ver p0 hg
      split at h
      · rename_i v y hid
        obtain ⟨rfl, h⟩ := h
        split at h
        · rename_i hgp
          split at h
          · rename_i x' hsp
            obtain ⟨k1, k2, k3⟩ := hs.own k
            have hlt : id < H.length := (List.getElem?_eq_some_iff.1 hid).1
            have hid' : (H ++ [Ob.obj 0 (.arr 0 k [])])[id]? = some (.obj v y) := by rw [List.getElem?_append_left hlt]; exact hid
            obtain ⟨q1, q2⟩ := k1.turn (o' := .obj v x') (w' := w) (β' := upd β H.length 0 none) hid' rfl rfl (Nat.le_refl _) (fun _ _ _ => rfl) (fun b off e => .inl ⟨off, e⟩) rfl rfl rfl (Nat.le_refl _) (fun _ _ => rfl) (fun _ _ _ => rfl) (fun hm => by
              rcases k1.ob id _ hid' with ⟨r0, r1⟩ | ⟨b, off, pre, vs, post, t, fr, r0, r1, r2, r3, r4⟩
              · refine .inl ⟨r0, ?_⟩
                exact RepC.mono hm (setP_same r1 hgp (fun m hm' => by rw [RepC] at hm'; rw [hm'.1]; exact k3) hsp)
              · refine .inr ⟨b, off, pre, vs, post, t, fr, r0, r1, r2, r3, ?_⟩
                exact RepC.mono hm (setP_same r4 hgp (fun m hm' => by rw [RepC] at hm'; rw [hm'.1]; exact k3) hsp))
            rw [List.set_append_left _ _ hlt] at q1 q2
            exact ih ht h q1 ⟨⟨fun s' => Rep.mono (q2.mono k1) (Rep.mono (k2.mono hs) (hf.env.1 s')), q1.glob⟩, hf.size, hf.defers⟩ fun x' e' H' β' F' w' a' m1 m2 m3 m4 => hk x' e' H' β' F' w' a' m1 m2 m3 ((k2.trans q2).trans m4)
          · exact h.elim
        · exact ih ht h hs hf hk
      · exact h.elim
    · exact h.elim
end sound
end Go.Proofs.YtknphdcjopaaoaaDoor
