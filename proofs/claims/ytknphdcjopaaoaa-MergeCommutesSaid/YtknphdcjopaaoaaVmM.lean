/- The code of the machine of values, and what it asks: if its condition holds, the model's code goes well. No program in sight. -/
import Derived.Test.YtknphdcjopaaoaaVmL
import Derived.RangeFuncIn
import Derived.RangeFuncRecord
import Derived.RangeFuncLeaves
import Derived.Sort.LoopGhostIn
namespace Go.Proofs.Ytknphdcjopaaoaa
open Go.RowKit
set_option linter.unusedVariables false
set_option autoImplicit false

inductive VCode where
  | ops (l : List VO) (keep : List Nat)
  /-- the order is open; the first nA change no object, and the others wait for all -/
  | draw (nA : Nat) (l : List VO) (keep : List Nat)
  | skip
  | seq (a b : VCode)
  | cond (c : Opd) (a b : VCode)
  | block (id : Nat) (c : VCode)
  | loop (live : List Nat) (c : VCode)
  | exit (id : Nat)
  | ret
  | scope (c : VCode)
  /-- (nothing is done) a nil slice in a slot is looked at as an object of one's own that has no cells yet -/
  | own (s k : Nat) (c : VCode)
  /-- (nothing is done) the same of a nil slice within an object -/
  | ownB (s : Nat) (p : List (Nat × Nat)) (k : Nat) (c : VCode)
  /-- (nothing is done) the same of a nil slice of one-cell elements within an object; what type its blocks will have is kept in mind -/
  | ownT (s : Nat) (p : List (Nat × Nat)) (t : TypeId) (c : VCode)
  /-- a loop over a function: the parameters' slots; the assignments to the left sides; the body -/
  | rfunc (f : Opd) (ps : List Nat) (as bd : VCode)
  deriving Inhabited

/-- Without what was laid beside it. -/
def er : VCode → VCode
  | .ops l _ => .ops l []
  | .draw n l _ => .draw n l []
  | .seq a b => .seq (er a) (er b)
  | .cond c a b => .cond c (er a) (er b)
  | .block id c => .block id (er c)
  | .loop _ c => .loop [] (er c)
  | .scope c => .scope (er c)
  | .own _ _ c => er c
  | .ownB _ _ _ c => er c
  | .ownT _ _ _ c => er c
  | .rfunc f ps as bd => .rfunc f ps (er as) (er bd)
  | .skip => .skip
  | .exit id => .exit id
  | .ret => .ret

def trDraw (P : Program) (N : Nat) (ops : Array Oper) : Option VCode := match trL P N ops.toList ops.toList with
  | some l => if P.follows .mixedOrders then (if l.any isBstr then (match trL P N (permOps ops.toList (piOf ops.toList l)) (permOps ops.toList (piOf ops.toList l)) with
      | some l' => if isPerm (piOf ops.toList l) ops.toList.length then ((List.range (ops.size + 1)).find? (chkDraw (permOps ops.toList (piOf ops.toList l)) l')).map fun n => .draw n l' [] else none
      | none => none)
    else ((List.range (ops.size + 1)).find? (chkDraw ops.toList l)).map fun n => .draw n l []) else none
  | none => none
theorem trDraw_spec {P : Program} {N : Nat} {ops : Array Oper} {c : VCode} (h : trDraw P N ops = some c) : ∃ n l, c = .draw n l [] ∧ P.follows .mixedOrders = true ∧
    ((trL P N ops.toList ops.toList = some l ∧ chkDraw ops.toList l n = true) ∨ ∃ π, isPerm π ops.toList.length = true ∧ trL P N (permOps ops.toList π) (permOps ops.toList π) = some l ∧ chkDraw (permOps ops.toList π) l n = true) := by
  unfold trDraw at h
  split at h
  · rename_i l hl
    split at h
    · rename_i hm
      split at h
      · split at h
        · rename_i l' hl'
          split at h
          · rename_i hp
            obtain ⟨n, hn, rfl⟩ := Option.map_eq_some_iff.1 h
            exact ⟨n, l', rfl, hm, .inr ⟨_, hp, hl', List.find?_some hn⟩⟩
          · cases h
        · cases h
      · obtain ⟨n, hn, rfl⟩ := Option.map_eq_some_iff.1 h
        exact ⟨n, l, rfl, hm, .inl ⟨hl, List.find?_some hn⟩⟩
    · cases h
  · cases h
theorem trDraw_no {P : Program} {N : Nat} {ops : Array Oper} {c : VCode} (h : trDraw P N ops = some c) (hc : ∀ n l, c ≠ .draw n l []) : False := by
  obtain ⟨n, l, e, _⟩ := trDraw_spec h
  exact hc n l e
def trC (P : Program) (N : Nat) : Code → Option VCode
  | .skip => some .skip
  | .region _ ops false => (trL P N ops.toList ops.toList).map fun l => .ops l []
  | .region _ ops true => trDraw P N ops
  | .seq a b => match trC P N a, trC P N b with
    | some a, some b => some (.seq a b)
    | _, _ => none
  | .cond c a b => match trC P N a, trC P N b with
    | some a, some b => some (.cond (trO c) a b)
    | _, _ => none
  | .block id c => (trC P N c).map (.block id)
  | .loop c => (trC P N c).map (.loop [])
  | .exit id => some (.exit id)
  | .ret => some .ret
  | .rangeFunc f ps as bd => if ps.toList.all (· < N) then (match trC P N as, trC P N bd with
    | some as, some bd => some (.rfunc (trO f) ps.toList as bd)
    | _, _ => none) else none
  | _ => none

/-- No loop over a function in it. -/
def noRf : VCode → Bool
  | .seq a b => noRf a && noRf b
  | .cond _ a b => noRf a && noRf b
  | .block _ c => noRf c
  | .loop _ c => noRf c
  | .scope c => noRf c
  | .own _ _ c => noRf c
  | .ownB _ _ _ c => noRf c
  | .ownT _ _ _ c => noRf c
  | .rfunc _ _ _ _ => false
  | _ => true

inductive VEx where
  | nor
  | exit (id : Nat)
  | ret

def VEx.ex : VEx → Exit
  | .nor => .normal
  | .exit id => .exit id
  | .ret => .ret

mutual
/-- It refers to no object from g on. -/
def belowT (g : Nat) : TV → Bool
  | .op id _ _ => decide (id < g)
  | .os _ id _ _ _ _ _ => decide (id < g)
  | .mp id _ => decide (id < g)
  | .yl id _ => decide (id < g)
  | .agg cs => belowL g cs
  | .tup cs => belowL g cs
  | .ifc _ x => belowT g x
  | .fn _ a b => belowL g a && belowL g b
  | _ => true
def belowL (g : Nat) : List TV → Bool
  | [] => true
  | x :: xs => belowT g x && belowL g xs
end
def belowE (g : Nat) : Env → Bool
  | [] => true
  | (_, x) :: e => belowT g x && belowE g e
def belowO (g : Nat) : Ob → Bool
  | .obj _ x => belowT g x
  | .ice _ _ x => belowT g x
  | .fact id _ _ _ => decide (id < g)
  | .lp _ _ _ _ e _ _ _ => belowE g e
  | .mpo _ es => belowL g (es.map (·.2))
  | .bld _ _ _ => true
  | .gone _ => true
def belowH (g : Nat) : List Ob → Bool
  | [] => true
  | o :: H => belowO g o && belowH g H
/-- How a loop over a function is left. -/
def RfPost (Q : VEx → Env → List Ob → Prop) (e : Env) (L : Nat) : TV → List Ob → Prop := fun _ H' => match H'[L]? with
  | some (.lp .ready none fn N e1 ps ca cb) => Q .nor e (H'.set L (.lp .exhausted none fn N e1 ps ca cb))
  | some (.lp .done (some .ret) fn N e1 ps ca cb) => Q .ret e (H'.set L (.lp .exhausted (some .ret) fn N e1 ps ca cb))
  | some (.lp .done (some (.exit i)) fn N e1 ps ca cb) => Q (.exit i) e (H'.set L (.lp .exhausted (some (.exit i)) fn N e1 ps ca cb))
  | _ => False
/-- The code of a loop's record is this. -/
structure RfCode (P : Program) (N : Nat) (ps : List Nat) (ca cb : Code) (as bd : VCode) : Prop where
  a : trC P N ca = some (er as)
  b : trC P N cb = some (er bd)
  p : ps.all (· < N) = true

def vwp (P : Program) : VCode → (VEx → Env → List Ob → Prop) → Env → List Ob → Prop
  | .ops l kp, Q, e, H => vops P l (fun e H => Q .nor (forget kp e) H) e H
  | .draw n l kp, Q, e, H => vq P (l.take n) (fun e => vops P (l.drop n) (fun e H => Q .nor (forget kp e) H) e H) e H
  | .skip, Q, e, H => Q .nor e H
  | .seq a b, Q, e, H => vwp P a (fun x e H => match x with | .nor => vwp P b Q e H | .exit i => Q (.exit i) e H | .ret => Q .ret e H) e H
  | .cond c a b, Q, e, H => match c.ev e with
    | .val (.bool t) => if t = true then vwp P a Q e H else vwp P b Q e H
    | _ => False
  | .block id c, Q, e, H => vwp P c (fun x e H => match x with | .nor => Q .nor e H | .exit i => if i = id then Q .nor e H else Q (.exit i) e H | .ret => Q .ret e H) e H
  | .loop lv c, Q, e, H0 => ∃ (I : Nat → Env → List Ob → Prop) (n : Nat), I n (forget lv e) H0 ∧
      ∀ n e H, I n e H → vwp P c (fun x e H => match x with | .nor => ∃ m g, m < n ∧ (H0.length ≤ g ∧ (H.length ≤ g ∨ (belowE g (forget lv e) = true ∧ belowH g (H.take g) = true))) ∧ I m (forget lv e) (H.take g) | .exit i => Q (.exit i) e H | .ret => Q .ret e H) e H
  | .exit id, Q, e, H => Q (.exit id) e H
  | .ret, Q, e, H => Q .ret e H
  | .scope c, Q, e, H => vwp P c Q e H
  | .own s k c, Q, e, H => match get e s with
    | .val (.slice none 0 0) => vwp P c Q ((s, .os k H.length 0 [] 0 0 0) :: e) (H ++ [.obj 0 (.arr 0 k [])])
    | _ => vwp P c Q e H
  | .ownB s p k c, Q, e, H => match get e s with
    | .op id ver p0 => (match H[id]? with
      | some (.obj v x) => v = ver ∧ (match getP (p0 ++ p) x with
        | some (.val (.slice none 0 0)) => (match setP (p0 ++ p) x (.os k H.length 0 [] 0 0 0) with
          | some x' => vwp P c Q e (H.set id (.obj ver x') ++ [.obj 0 (.arr 0 k [])])
          | none => False)
        | _ => vwp P c Q e H)
      | _ => False)
    | _ => False
  | .ownT s p t c, Q, e, H => match get e s with
    | .op id ver p0 => (match H[id]? with
      | some (.obj v x) => v = ver ∧ (match getP (p0 ++ p) x with
        | some (.val (.slice none 0 0)) => (match setP (p0 ++ p) x (.os 1 H.length 0 [] 0 0 0) with
          | some x' => vwp P c Q e (H.set id (.obj ver x') ++ [.bld 0 t []])
          | none => False)
        | _ => vwp P c Q e H)
      | _ => False)
    | _ => False
  | .rfunc f ps as bd, Q, e, H => noRf as = true ∧ noRf bd = true ∧ (match f.ev e with
    | .fn (.func g) first caps => isGo P g = true ∧ ∀ (N : Nat) (fn : FuncId) (ca cb : Code), RfCode P N ps ca cb as bd → VCalls P g (first ++ [.yl H.length 0] ++ caps) (H ++ [.lp .ready none fn N e ps ca cb]) (RfPost Q e H.length)
    | .val (.func (.func g) xs ys) => (xs.isEmpty && ys.isEmpty) = true ∧ isGo P g = true ∧ ∀ (N : Nat) (fn : FuncId) (ca cb : Code), RfCode P N ps ca cb as bd → VCalls P g [.yl H.length 0] (H ++ [.lp .ready none fn N e ps ca cb]) (RfPost Q e H.length)
    | _ => False)

section sound
variable {P : Program}
/-- The same cells, read otherwise. -/
theorem setP_same {c : Ctx} {w : World} : ∀ {p : List (Nat × Nat)} {x y z x' : TV} {us : List Value}, RepC c w x us → getP p x = some z → (∀ m, RepC c w z m → RepC c w y m) → setP p x y = some x' → RepC c w x' us := by
  intro p x y z x' us h hg hm hs
  obtain ⟨a, m, b, rfl, h1, h2⟩ := getP_spec h hg
  obtain ⟨a', m', b', e, h3, h4, h5, _⟩ := setP_spec h hs (hm m h2)
  have e1 : a = a' := by
    have := congrArg (List.take a.length) e
    rw [List.append_assoc, List.append_assoc, List.take_left] at this
    rw [this, List.take_left' (by omega)]
  subst e1
  rw [List.append_assoc, List.append_assoc] at e
  have e2 := List.append_cancel_left e
  have e3 : m = m' := by
    have := congrArg (List.take m.length) e2
    rw [List.take_left] at this
    rw [this, List.take_left' (by omega)]
  subst e3
  have e4 := List.append_cancel_left e2
  subst e4
  exact h5

theorem Sim.own {β : Nat → Nat → Option (Nat × Nat)} {H : List Ob} {F : Nat → Prop} {w : World} (hs : Sim ⟨β, H, F⟩ w) (k : Nat) :
    Sim ⟨upd β H.length 0 none, H ++ [.obj 0 (.arr 0 k [])], F⟩ w ∧ Later ⟨β, H, F⟩ w ⟨upd β H.length 0 none, H ++ [.obj 0 (.arr 0 k [])], F⟩ w ∧
      RepC ⟨upd β H.length 0 none, H ++ [.obj 0 (.arr 0 k [])], F⟩ w (.os k H.length 0 [] 0 0 0) [.slice none 0 0] := by
  obtain ⟨k1, k2⟩ := hs.newNone (x := .arr 0 k []) (by rw [RepC]; exact ⟨rfl, by simp, by rw [RepCs]⟩)
  exact ⟨k1, k2, by rw [RepC]; exact ⟨has_new _ _ _ _ _ (Nat.le_refl _), .inl ⟨rfl, none, rfl, rfl, fun _ h => by cases h⟩⟩⟩

theorem Sim.ownBld {β : Nat → Nat → Option (Nat × Nat)} {H : List Ob} {F : Nat → Prop} {w : World} (hs : Sim ⟨β, H, F⟩ w) (t : TypeId) :
    Sim ⟨upd β H.length 0 none, H ++ [.bld 0 t []], F⟩ w ∧ Later ⟨β, H, F⟩ w ⟨upd β H.length 0 none, H ++ [.bld 0 t []], F⟩ w ∧
      RepC ⟨upd β H.length 0 none, H ++ [.bld 0 t []], F⟩ w (.os 1 H.length 0 [] 0 0 0) [.slice none 0 0] := by
  obtain ⟨k1, k2⟩ := hs.new (.bld 0 t []) rfl none (w' := w) (fun b off e => by cases e) rfl rfl rfl (Nat.le_refl _) (fun b hb => rfl) fun hm => .inl ⟨upd_same, rfl⟩
  exact ⟨k1, k2, by rw [RepC]; exact ⟨has_new _ _ _ _ _ (Nat.le_refl _), .inl ⟨rfl, none, rfl, rfl, fun _ h => by cases h⟩⟩⟩

/-- Objects that nobody knows any more are forgotten. -/
def Ctx.cut (c : Ctx) (g : Nat) : Ctx := ⟨c.β, c.H.take g, c.F⟩
theorem Ctx.cut_has {c : Ctx} {g id ver : Nat} (h : c.has id ver) (hg : id < g) : (c.cut g).has id ver := by
  obtain ⟨o, h1, h2⟩ := h
  exact ⟨o, by show (c.H.take g)[id]? = some o; rw [List.getElem?_take, if_pos hg]; exact h1, h2⟩
theorem Ctx.cut_get {c : Ctx} {g id : Nat} {o : Ob} (h : (c.cut g).H[id]? = some o) : id < g ∧ c.H[id]? = some o := by
  have h' : (c.H.take g)[id]? = some o := h
  rw [List.getElem?_take] at h'
  split at h'
  · exact ⟨‹_›, h'⟩
  · cases h'
mutual
theorem RepC.cut {c : Ctx} {w : World} {g : Nat} : ∀ {x : TV} {us : List Value}, belowT g x = true → RepC c w x us → RepC (c.cut g) w x us
  | .val y, us, hf, hr => by rw [RepC] at hr ⊢; exact hr
  | .any, us, hf, hr => by rw [RepC] at hr ⊢; exact hr
  | .sl k cs, us, hf, hr => by rw [RepC] at hr ⊢; exact hr
  | .fp x, us, hf, hr => by rw [RepC] at hr ⊢; exact hr
  | .arr n k cs, us, hf, hr => by rw [RepC] at hr ⊢; exact hr
  | .op id ver p, us, hf, hr => by
    rw [belowT, decide_eq_true_eq] at hf; rw [RepC] at hr ⊢; exact ⟨Ctx.cut_has hr.1 hf, hr.2⟩
  | .os k id ver p off n cp, us, hf, hr => by
    rw [belowT, decide_eq_true_eq] at hf; rw [RepC] at hr ⊢; exact ⟨Ctx.cut_has hr.1 hf, hr.2⟩
  | .mp id ver, us, hf, hr => by
    rw [belowT, decide_eq_true_eq] at hf; rw [RepC] at hr ⊢; exact ⟨Ctx.cut_has hr.1 hf, hr.2⟩
  | .yl id ver, us, hf, hr => by
    rw [belowT, decide_eq_true_eq] at hf; rw [RepC] at hr ⊢; exact ⟨Ctx.cut_has hr.1 hf, hr.2⟩
  | .agg cs, us, hf, hr => by rw [belowT] at hf; rw [RepC] at hr ⊢; exact RepCs.cut hf hr
  | .tup cs, us, hf, hr => by rw [RepC] at hr; exact hr.elim
  | .ifc t x, us, hf, hr => by
    rw [belowT] at hf; rw [RepC] at hr ⊢
    obtain ⟨u, h1, vs, h2, h3⟩ := hr
    exact ⟨u, h1, vs, RepC.cut hf h2, h3⟩
  | .fn f a b, us, hf, hr => by
    rw [belowT, Bool.and_eq_true] at hf; rw [RepC] at hr ⊢
    obtain ⟨as, bs, h1, h2, h3⟩ := hr
    exact ⟨as, bs, h1, RepL.cut hf.1 h2, RepL.cut hf.2 h3⟩
theorem RepCs.cut {c : Ctx} {w : World} {g : Nat} : ∀ {xs : List TV} {us : List Value}, belowL g xs = true → RepCs c w xs us → RepCs (c.cut g) w xs us
  | [], us, hf, hr => by rw [RepCs] at hr ⊢; exact hr
  | x :: xs, us, hf, hr => by
    rw [belowL, Bool.and_eq_true] at hf; rw [RepCs] at hr ⊢
    obtain ⟨a, b, h1, h2, h3⟩ := hr
    exact ⟨a, b, h1, RepC.cut hf.1 h2, RepCs.cut hf.2 h3⟩
theorem RepL.cut {c : Ctx} {w : World} {g : Nat} : ∀ {xs : List TV} {us : List Value}, belowL g xs = true → RepL c w xs us → RepL (c.cut g) w xs us
  | [], us, hf, hr => by rw [RepL] at hr ⊢; exact hr
  | x :: xs, us, hf, hr => by
    rw [belowL, Bool.and_eq_true] at hf; rw [RepL] at hr ⊢
    obtain ⟨u, us, h1, h2, h3⟩ := hr
    refine ⟨u, us, h1, ?_, RepL.cut hf.2 h3⟩
    rcases h2 with h2 | h2 | ⟨as, h2, h4⟩
    · exact .inl h2
    · exact .inr (.inl h2)
    · exact .inr (.inr ⟨as, RepC.cut hf.1 h2, h4⟩)
end
theorem Rep.cut {c : Ctx} {w : World} {g : Nat} {x : TV} {v : Value} (hf : belowT g x = true) (hr : Rep c w x v) : Rep (c.cut g) w x v := by
  rcases hr with (h | h | ⟨us, h, h'⟩) | ⟨xs, vs, rfl, h2, h3⟩
  · exact .inl (.inl h)
  · exact .inl (.inr (.inl h))
  · exact .inl (.inr (.inr ⟨us, RepC.cut hf h, h'⟩))
  · rw [belowT] at hf; exact .inr ⟨xs, vs, rfl, h2, RepL.cut hf h3⟩
theorem belowE_get {g : Nat} : ∀ {e : Env}, belowE g e = true → ∀ s, belowT g (get e s) = true
  | [], _, s => rfl
  | (k, x) :: e, h, s => by
    rw [belowE, Bool.and_eq_true] at h
    rw [get_cons]
    split
    · exact h.1
    · exact belowE_get h.2 s
theorem belowH_get {g : Nat} : ∀ {H : List Ob}, belowH g H = true → ∀ (i : Nat) (o : Ob), H[i]? = some o → belowO g o = true
  | [], _, i, o, h => by simp at h
  | o :: H, h, i, o', hi => by
    rw [belowH, Bool.and_eq_true] at h
    cases i with
    | zero => simp at hi; subst hi; exact h.1
    | succ i => exact belowH_get h.2 i o' (by simpa using hi)
theorem EntsOk.cut {c : Ctx} {w : World} {g : Nat} {kk : MK} : ∀ {es : List (List UInt8 × TV)} {ms : List MapEntry}, belowL g (es.map (·.2)) = true → EntsOk c w kk es ms → EntsOk (c.cut g) w kk es ms
  | [], ms, _, h => h
  | (k, x) :: es, ms, hb, h => by
    rw [List.map_cons, belowL, Bool.and_eq_true] at hb
    obtain ⟨m, r, rfl, h1, h2, h3⟩ := h
    exact ⟨m, r, rfl, h1, ⟨RepC.cut hb.1 h2.1, h2.2⟩, EntsOk.cut hb.2 h3⟩
theorem Sim.cut {c : Ctx} {w : World} {g : Nat} (hs : Sim c w) (hg : belowH g (c.H.take g) = true) : Sim (c.cut g) w := by
  have hown : ∀ b, (c.cut g).own b → c.own b := by
    rintro b ⟨i, o, off, h1, h2, h3⟩
    exact ⟨i, o, off, (Ctx.cut_get h1).2, h2, h3⟩
  refine ⟨fun id o ho => ?_, fun i j x y b o o' hx hy hlx hly e e' => hs.inj i j x y b o o' (Ctx.cut_get hx).2 (Ctx.cut_get hy).2 hlx hly e e', fun b hb => hs.apart b (hown b hb), hs.lt, hs.glob⟩
  have h1 := hs.ob id o (Ctx.cut_get ho).2
  have hb := belowH_get hg id o ho
  cases o with
  | gone v => trivial
  | ice v m x =>
    obtain ⟨b, off, pre, vs, post, t, fr, h0, h1, h2, h3, h4⟩ := h1
    exact ⟨b, off, pre, vs, post, t, fr, h0, h1, h2, h3, RepC.cut hb h4⟩
  | bld v t l => exact h1
  | fact i v t m =>
    obtain ⟨h0, h2⟩ := h1
    exact ⟨Ctx.cut_has h0 (by simpa [belowO] using hb), h2⟩
  | lp st pend fn N en ps ca cb =>
    obtain ⟨b, tmps, D, h0, h1, h2, h3⟩ := h1
    exact ⟨b, tmps, D, h0, h1, h2, fun s => Rep.cut (belowE_get hb s) (h3 s)⟩
  | mpo kk es =>
    obtain ⟨b, ms, cl, h0, h1, h2, h3⟩ := h1
    exact ⟨b, ms, cl, h0, h1, EntsOk.cut hb h2, h3⟩
  | obj v x =>
    rcases h1 with ⟨h0, h4⟩ | ⟨b, off, pre, vs, post, t, fr, h0, h1, h2, h3, h4⟩
    · exact .inl ⟨h0, RepC.cut hb h4⟩
    · exact .inr ⟨b, off, pre, vs, post, t, fr, h0, h1, h2, h3, RepC.cut hb h4⟩
theorem Later.cut {c0 c : Ctx} {w0 w : World} {g : Nat} (hl : Later c0 w0 c w) (hg : c0.H.length ≤ g) : Later c0 w0 (c.cut g) w :=
  ⟨hl.os, hl.tape, hl.output, hl.size, fun id ver h => by
    obtain ⟨h1, h2⟩ := hl.has id ver h
    exact ⟨Ctx.cut_has h1 (Nat.lt_of_lt_of_le (Ctx.has_lt h) hg), h2⟩, hl.shape, hl.same, hl.keepF, hl.oldF, fun b hb ⟨i, o, off, h1, h2, h3⟩ => hl.oldOwn b hb ⟨i, o, off, (Ctx.cut_get h1).2, h2, h3⟩⟩

/-- The blocks for the calls that rounds defer: each holds none. -/
def Marks (B : Nat) (c : Ctx) (w : World) (D : List Deferred) : Prop := ∃ ds : List Nat, D = ds.map (fun r => { target := .collected r, args := #[] }) ∧ ds.Nodup ∧ ∀ r ∈ ds, B ≤ r ∧ r < w.heap.size ∧ ¬ c.own r ∧ ¬ c.F r ∧ w.heap[r]? = some (.deferred (some []))
theorem Marks.nil {B : Nat} {c : Ctx} {w : World} : Marks B c w [] := ⟨[], rfl, List.nodup_nil, fun r h => by cases h⟩
theorem Marks.later {B : Nat} {c c' : Ctx} {w w' : World} {D : List Deferred} (h : Marks B c w D) (hl : Later c w c' w') : Marks B c' w' D := by
  obtain ⟨ds, h1, h2, h3⟩ := h
  refine ⟨ds, h1, h2, fun r hr => ?_⟩
  obtain ⟨k1, k2, k3, k4, k5⟩ := h3 r hr
  exact ⟨k1, Nat.lt_of_lt_of_le k2 hl.size, fun h => k3 (hl.oldOwn r k2 h), fun h => (hl.oldF r k2 h).elim k4 k3, (hl.same r k2 k3).trans k5⟩
theorem Marks.cut {B g : Nat} {c : Ctx} {w : World} {D : List Deferred} (h : Marks B c w D) : Marks B (c.cut g) w D := by
  obtain ⟨ds, h1, h2, h3⟩ := h
  refine ⟨ds, h1, h2, fun r hr => ?_⟩
  obtain ⟨k1, k2, k3, k4, k5⟩ := h3 r hr
  exact ⟨k1, k2, fun ⟨i, o, off, h1, h2, h3⟩ => k3 ⟨i, o, off, (Ctx.cut_get h1).2, h2, h3⟩, k4, k5⟩

theorem putObj_os (w : World) (r : Nat) (o : Obj) : (w.putObj r o).os = w.os ∧ (w.putObj r o).tape = w.tape ∧ (w.putObj r o).output = w.output ∧ (w.putObj r o).heap.size = w.heap.size := ⟨rfl, rfl, rfl, by simp [World.putObj]⟩
theorem shape_loop {w : World} {b : Nat} {r : Loop} (h : w.heap[b]? = some (.loop r)) : w.shape? b = none := by simp [World.shape?, h]

/-- A loop's record turns. -/
theorem Sim.loopTurn {β : Nat → Nat → Option (Nat × Nat)} {H : List Ob} {F : Nat → Prop} {w : World} (hs : Sim ⟨β, H, F⟩ w) {id N : Nat} {fn : FuncId} {e : Env} {ps : List Nat} {ca cb : Code} {st st' : LoopState} {pe pe' : Option Code}
    (ho : H[id]? = some (.lp st pe fn N e ps ca cb)) : ∃ (b : Nat) (r : Loop), β id 0 = some (b, 0) ∧ w.heap[b]? = some (.loop r) ∧ r.state = st ∧ r.pending = pe ∧ r.fn = fn ∧ r.tmps.size = N ∧ r.params = ps.toArray ∧ r.assign = ca ∧ r.body = cb ∧ (∀ s, Rep ⟨β, H, F⟩ w (get e s) (r.tmps.getD s undef)) ∧
      Sim ⟨β, H.set id (.lp st' pe' fn N e ps ca cb), F⟩ (w.putObj b (.loop { r with state := st', pending := pe' })) ∧
      Later ⟨β, H, F⟩ w ⟨β, H.set id (.lp st' pe' fn N e ps ca cb), F⟩ (w.putObj b (.loop { r with state := st', pending := pe' })) := by
  obtain ⟨b, tmps, D, h1, h2, h3, h4⟩ := hs.ob id _ ho
  have hlt : b < w.heap.size := (Array.getElem?_eq_some_iff.1 h2).1
  have hid : id < H.length := (List.getElem?_eq_some_iff.1 ho).1
  have hput := World.putObj_heap_same (w := w) (o := .loop { state := st', pending := pe', fn := fn, tmps := tmps, params := ps.toArray, assign := ca, body := cb, defers := D }) hlt
  obtain ⟨k1, k2⟩ := hs.turn (β' := β) (w' := w.putObj b (.loop { state := st', pending := pe', fn := fn, tmps := tmps, params := ps.toArray, assign := ca, body := cb, defers := D })) ho (o' := .lp st' pe' fn N e ps ca cb) rfl rfl (Nat.le_refl _) (fun _ _ _ => rfl) (fun b' off hb => .inl ⟨off, hb⟩) rfl rfl rfl
    (by rw [(putObj_os _ _ _).2.2.2]; exact Nat.le_refl _) (fun b' hb' => by
      by_cases hbb : b' = b
      · subst hbb; rw [shape_loop h2, shape_loop hput]
      · exact shape_of_block (World.putObj_heap_other hbb)) (fun b' hb' hne => World.putObj_heap_other (fun e => hne 0 (by subst e; exact h1)))
    (fun hm => ⟨b, tmps, D, h1, hput, h3, fun s => Rep.mono hm (h4 s)⟩)
  exact ⟨b, { state := st, pending := pe, fn := fn, tmps := tmps, params := ps.toArray, assign := ca, body := cb, defers := D }, h1, h2, rfl, rfl, rfl, h3, rfl, rfl, rfl, h4, k1, k2⟩

theorem alloc_stays (w : World) (o : Obj) {F : Nat → Prop} (h : ∀ b, F b → b < w.heap.size) : True := trivial

/-- THE STATEMENT 'for .. := range g'. -/
theorem rfunc_sound {N nn : Nat} {f0 : Operand} {ps0 : Array Tmp} {ca cb : Code} {Q : VEx → Env → List Ob → Prop} {e : Env} {H : List Ob} {β : Nat → Nat → Option (Nat × Nat)} {F : Nat → Prop} {w : World} {a : Act} {QQ : Exit → Act → World → Prop} {B : Nat} {D : List Deferred}
    (hs : Sim ⟨β, H, F⟩ w) (hf : Fr N D ⟨β, H, F⟩ w e a) (hm : Marks B ⟨β, H, F⟩ w D) (hB : B ≤ w.heap.size) {g : FuncId} {us vs : List Value} {first caps : List TV} (hv : a.eval f0 = .func (.func g) us.toArray vs.toArray) (hgo : isGo P g = true) (hfi : RepL ⟨β, H, F⟩ w first us) (hc : RepL ⟨β, H, F⟩ w caps vs)
    (h : ∀ fn, VCalls P g (first ++ [.yl H.length 0] ++ caps) (H ++ [.lp .ready none fn N e ps0.toList ca cb]) (RfPost Q e H.length))
    (hk : ∀ x e' H' β' F' w' a' D', Q x e' H' → Sim ⟨β', H', F'⟩ w' → Fr N D' ⟨β', H', F'⟩ w' e' a' → Marks B ⟨β', H', F'⟩ w' D' → Later ⟨β, H, F⟩ w ⟨β', H', F'⟩ w' → QQ x.ex a' w') : (Code.rangeFunc f0 ps0 ca cb).wpIn (fz none) nn P QQ a w := by
  refine wpIn_rangeFunc ?_
  intro fn hfn
  obtain ⟨rec, hrec⟩ : ∃ rec : Loop, rec = { state := .ready, pending := none, fn := fn, tmps := a.tmps, params := ps0, assign := ca, body := cb, defers := w.heap.size } := ⟨_, rfl⟩
  obtain ⟨W1, hW1⟩ : ∃ W1, (w.alloc (.deferred (some []))).alloc (.loop rec) = W1 := ⟨_, rfl⟩
  have hL1 : W1.heap[w.heap.size + 1]? = some (.loop rec) := by
    rw [← hW1]; have := World.alloc_heap_new (w.alloc (.deferred (some []))) (.loop rec); rwa [World.size_alloc] at this
  have hK1 : W1.heap[w.heap.size]? = some (.deferred (some [])) := by
    rw [← hW1]; exact (Below.heap_alloc _ _ _ (by simp)).trans (World.alloc_heap_new w _)
  have hsz : W1.heap.size = w.heap.size + 2 := by rw [← hW1]; simp
  have hold : ∀ b, b < w.heap.size → W1.heap[b]? = w.heap[b]? := fun b hb => by
    rw [← hW1]; exact (Below.heap_alloc _ _ _ (by simp; omega)).trans (Below.heap_alloc _ _ _ hb)
  obtain ⟨k1, k2⟩ := hs.new (w' := W1) (.lp .ready none fn N e ps0.toList ca cb) rfl (some (w.heap.size + 1, 0)) (fun b off h => by simp at h; omega) (by rw [← hW1]; rfl) (by rw [← hW1]; rfl) (by rw [← hW1]; rfl) (by omega) hold
    (fun hmo => ⟨w.heap.size + 1, a.tmps, w.heap.size, upd_same, by rw [hL1, hrec], hf.size, fun s => Rep.mono hmo (hf.env.1 s)⟩)
  have hmo := k2.mono hs
  have hown1 : ∀ b, Ctx.own ⟨upd β H.length 0 (some (w.heap.size + 1, 0)), H ++ [.lp .ready none fn N e ps0.toList ca cb], F⟩ b → b ≠ w.heap.size := by
    rintro b ⟨i, o, off, h1, h2, h3⟩ rfl
    by_cases hi : i < H.length
    · rw [List.getElem?_append_left hi] at h1
      have h3' : β i o.ver = some (w.heap.size, off) := by
        have h3 : upd β H.length 0 (some (w.heap.size + 1, 0)) i o.ver = some (w.heap.size, off) := h3
        rw [upd_other (fun h => by omega)] at h3; exact h3
      have := hs.own_lt ⟨i, o, off, h1, h2, h3'⟩
      omega
    · have hil : i = H.length := by
        have := (List.getElem?_eq_some_iff.1 h1).1
        simp at this; omega
      subst hil
      simp at h1
      subst h1
      have h3 : upd β H.length 0 (some (w.heap.size + 1, 0)) H.length 0 = some (w.heap.size, off) := h3
      rw [upd_same] at h3
      simp at h3
  refine ⟨w.heap.size + 1, [{ target := .collected w.heap.size, args := #[] }], W1, { target := .fn (.func g) vs.toArray, args := us.toArray ++ #[.func (.yield (w.heap.size + 1)) #[] #[]] }, W1, g,
    us.toArray ++ #[.func (.yield (w.heap.size + 1)) #[] #[]] ++ vs.toArray, W1, ?_, ?_, ?_, ?_, ?_, ?_⟩
  · rw [← hW1, hrec]; exact run_enterLoop_outer _ _ _ _ _
  · simp only [resolve, hv]
    simp [go_sem]
  · intro f' hf'; trivial
  · simp only [invoke, callFunc_go hgo]
  · intro h; simp [fz, Fence.wide] at h
  · refine (callsIn_wide (n := nn - 1)).2 ?_
    have hargs : RepL ⟨upd β H.length 0 (some (w.heap.size + 1, 0)), H ++ [.lp .ready none fn N e ps0.toList ca cb], F⟩ W1 (first ++ [.yl H.length 0] ++ caps) (us ++ [.func (.yield (w.heap.size + 1)) #[] #[]] ++ vs) := by
      refine RepL.append (RepL.append (RepL.mono hmo hfi) (RepL.cons.2 ⟨_, [], rfl, .inr (.inr ⟨[.func (.yield (w.heap.size + 1)) #[] #[]], ?_, rfl⟩), by rw [RepL]⟩)) (RepL.mono hmo hc)
      rw [RepC]
      exact ⟨has_new _ _ _ _ _ (Nat.le_refl _), _, _, upd_same, rfl⟩
    have hcall := h fn _ _ W1 _ k1 hargs
    rw [show (us ++ [Value.func (.yield (w.heap.size + 1)) #[] #[]] ++ vs).toArray = us.toArray ++ #[.func (.yield (w.heap.size + 1)) #[] #[]] ++ vs.toArray from by simp] at hcall
    refine hcall.mono ?_
    rintro _ w3 ⟨v, x, β', H', F', rfl, hR, hs', hl', hx⟩
    have hmk : Marks B ⟨β', H', F'⟩ w3 ({ target := .collected w.heap.size, args := #[] } :: D) := by
      have h1 : Marks B ⟨upd β H.length 0 (some (w.heap.size + 1, 0)), H ++ [.lp .ready none fn N e ps0.toList ca cb], F⟩ W1 ({ target := .collected w.heap.size, args := #[] } :: D) := by
        obtain ⟨ds, d1, d2, d3⟩ := hm.later k2
        refine ⟨w.heap.size :: ds, by rw [d1]; rfl, List.nodup_cons.2 ⟨fun hin => ?_, d2⟩, fun r hr => ?_⟩
        · obtain ⟨ds', e1, e2, e3⟩ := hm
          have : ds' = ds := by
            have : ds'.map (fun r => ({ target := .collected r, args := #[] } : Deferred)) = ds.map (fun r => { target := .collected r, args := #[] }) := by rw [← e1, ← d1]
            exact (List.map_inj_right (fun a b h => by simpa using h)).1 this
          rw [← this] at hin
          have := (e3 _ hin).2.1
          omega
        · rcases List.mem_cons.1 hr with rfl | hr
          · exact ⟨hB, by omega, fun ho => hown1 _ ho rfl, fun hF => absurd (hs.lt _ hF) (by omega), hK1⟩
          · exact d3 r hr
      exact h1.later hl'
    have fin : ∀ (st : LoopState) (pe : Option Code) (fn' : FuncId) (N' : Nat) (e1 : Env) (ps1 : List Nat) (c1 c2 : Code), st ≠ .busy → H'[H.length]? = some (.lp st pe fn' N' e1 ps1 c1 c2) →
        ∃ w4, (Instr.endLoop (w.heap.size + 1)).run P w3 = .ok pe w4 ∧ Sim ⟨β', H'.set H.length (.lp .exhausted pe fn' N' e1 ps1 c1 c2), F'⟩ w4 ∧ Later ⟨β', H', F'⟩ w3 ⟨β', H'.set H.length (.lp .exhausted pe fn' N' e1 ps1 c1 c2), F'⟩ w4 := by
      intro st pe fn' N' e1 ps1 c1 c2 hst hob
      obtain ⟨b, r, r1, r2, r3, r4, _, _, _, _, _, _, r5, r6⟩ := hs'.loopTurn (st' := .exhausted) (pe' := pe) hob
      have hβ : β' H.length 0 = some (w.heap.size + 1, 0) := ((hl'.has H.length 0 (has_new _ _ _ _ _ (Nat.le_refl _))).2).trans upd_same
      rw [hβ] at r1
      obtain ⟨rfl, _⟩ : w.heap.size + 1 = b ∧ True := by simpa using r1
      subst r4
      exact ⟨_, run_endLoop (P := P) r2 (by rw [r3]; exact hst), r5, r6⟩
    have hfr : ∀ {c : Ctx} {w4 : World}, Later ⟨β, H, F⟩ w c w4 → GlobOk c.F w4 → Fr N ({ target := .collected w.heap.size, args := #[] } :: D) c w4 e { a with defers := { target := .collected w.heap.size, args := #[] } :: a.defers } := fun {c w4} hl hgl =>
      ⟨⟨fun s => Rep.mono (hl.mono hs) (hf.env.1 s), hgl⟩, hf.size, by rw [hf.defers]⟩
    unfold RfPost at hR
    simp only [rangePost]
    split at hR
    · rename_i hob
      obtain ⟨w4, e1, e2, e3⟩ := fin .ready none _ _ _ _ _ _ (by simp) hob
      exact ⟨none, w4, e1, hk .nor _ _ _ _ _ _ _ hR e2 (hfr ((k2.trans hl').trans e3) e2.glob) (hmk.later e3) ((k2.trans hl').trans e3)⟩
    · rename_i hob
      obtain ⟨w4, e1, e2, e3⟩ := fin .done (some .ret) _ _ _ _ _ _ (by simp) hob
      exact ⟨some .ret, w4, e1, wpIn_ret (hk .ret _ _ _ _ _ _ _ hR e2 (hfr ((k2.trans hl').trans e3) e2.glob) (hmk.later e3) ((k2.trans hl').trans e3))⟩
    · rename_i i _ _ _ _ _ _ hob
      obtain ⟨w4, e1, e2, e3⟩ := fin .done (some (.exit _)) _ _ _ _ _ _ (by simp) hob
      exact ⟨some (.exit _), w4, e1, wpIn_exit (hk (.exit _) _ _ _ _ _ _ _ hR e2 (hfr ((k2.trans hl').trans e3) e2.glob) (hmk.later e3) ((k2.trans hl').trans e3))⟩
    · exact hR.elim

theorem vwp_sound {N : Nat} {ro : Option Nat} {nn : Nat} : ∀ (vc : VCode) {code : Code}, (ro = none ∨ noRf vc = true) → trC P N code = some (er vc) → ∀ {Q : VEx → Env → List Ob → Prop} {e : Env} {H : List Ob} {β : Nat → Nat → Option (Nat × Nat)} {F : Nat → Prop} {w : World} {a : Act} {QQ : Exit → Act → World → Prop} {B : Nat} {D : List Deferred},
    vwp P vc Q e H → Sim ⟨β, H, F⟩ w → Fr N D ⟨β, H, F⟩ w e a → Marks B ⟨β, H, F⟩ w D → B ≤ w.heap.size →
    (∀ x e' H' β' F' w' a' D', Q x e' H' → Sim ⟨β', H', F'⟩ w' → Fr N D' ⟨β', H', F'⟩ w' e' a' → Marks B ⟨β', H', F'⟩ w' D' → Later ⟨β, H, F⟩ w ⟨β', H', F'⟩ w' → QQ x.ex a' w') → code.wpIn (fz ro) nn P QQ a w := by
  intro vc
  have inv : ∀ {code : Code} {v : VCode}, trC P N code = some v → True := fun _ => trivial
  induction vc with
  | ops l kp =>
    intro code hrf ht Q e H β F w a QQ B D h hs hf hm hB hk
    rw [er] at ht
    cases code with
    | region id ops d =>
      cases d with
      | true => simp only [trC] at ht; exact (trDraw_no ht (by simp)).elim
      | false =>
        simp only [trC, Option.map_eq_some_iff, VCode.ops.injEq, and_true] at ht
        obtain ⟨l', hl, rfl⟩ := ht
        rw [vwp] at h
        exact wpIn_region_list (vops_sound hl h hs hf fun e' H' β' F' w' a' k1 k2 k3 k4 => hk .nor _ _ _ _ _ _ _ k1 k2 (k3.forget kp) (hm.later k4) k4)
    | seq x y => simp only [trC] at ht; split at ht <;> simp at ht
    | cond c x y => simp only [trC] at ht; split at ht <;> simp at ht
    | rangeFunc f ps x y => simp only [trC] at ht; split at ht <;> (try split at ht) <;> simp at ht
    | _ => simp [trC] at ht
  | draw n l kp =>
    intro code hrf ht Q e H β F w a QQ B D h hs hf hm hB hk
    rw [er] at ht
    cases code with
    | region id ops d =>
      cases d with
      | false => simp [trC] at ht
      | true =>
        simp only [trC] at ht
        obtain ⟨n', l', e9, hmo, hh⟩ := trDraw_spec ht
        simp only [VCode.draw.injEq, and_true] at e9
        obtain ⟨rfl, rfl⟩ := e9
        rw [vwp] at h
        rcases hh with ⟨hl, hck⟩ | ⟨π, hp, hl, hck⟩
        · exact draw_sound hmo hl hck h hs hf fun e' H' β' F' w' a' k1 k2 k3 k4 => hk .nor _ _ _ _ _ _ _ k1 k2 (k3.forget kp) (hm.later k4) k4
        · exact draw_soundP hmo hp hl hck h hs hf fun e' H' β' F' w' a' k1 k2 k3 k4 => hk .nor _ _ _ _ _ _ _ k1 k2 (k3.forget kp) (hm.later k4) k4
    | seq x y => simp only [trC] at ht; split at ht <;> simp at ht
    | cond c x y => simp only [trC] at ht; split at ht <;> simp at ht
    | rangeFunc f ps x y => simp only [trC] at ht; split at ht <;> (try split at ht) <;> simp at ht
    | _ => simp [trC] at ht
  | skip =>
    intro code hrf ht Q e H β F w a QQ B D h hs hf hm hB hk
    rw [er] at ht
    cases code with
    | skip => exact wpIn_skip (hk .nor _ _ _ _ _ _ _ h hs hf hm (Later.refl _ _))
    | region id ops d =>
      cases d
      · simp [trC] at ht
      · simp only [trC] at ht; exact (trDraw_no ht (by simp)).elim
    | seq x y => simp only [trC] at ht; split at ht <;> simp at ht
    | cond c x y => simp only [trC] at ht; split at ht <;> simp at ht
    | rangeFunc f ps x y => simp only [trC] at ht; split at ht <;> (try split at ht) <;> simp at ht
    | _ => simp [trC] at ht
  | seq x y ihx ihy =>
    intro code hrf ht Q e H β F w a QQ B D h hs hf hm hB hk
    rw [er] at ht
    cases code with
    | region id ops d =>
      cases d
      · simp [trC] at ht
      · simp only [trC] at ht; exact (trDraw_no ht (by simp)).elim
    | seq cx cy =>
      simp only [trC] at ht
      split at ht
      · rename_i vx vy hx hy
        simp only [Option.some.injEq, VCode.seq.injEq] at ht
        obtain ⟨rfl, rfl⟩ := ht
        rw [vwp] at h
        have hrx : ro = none ∨ noRf x = true := hrf.imp id fun h => by simp only [noRf, Bool.and_eq_true] at h; exact h.1
        have hry : ro = none ∨ noRf y = true := hrf.imp id fun h => by simp only [noRf, Bool.and_eq_true] at h; exact h.2
        refine wpIn_seq (ihx hrx hx h hs hf hm hB ?_)
        intro x e' H' β' F' w' a' D' k1 k2 k3 km k4
        cases x with
        | nor => exact ihy hry hy k1 k2 k3 km (Nat.le_trans hB k4.size) fun x e2 H2 β2 F2 w2 a2 D2 m1 m2 m3 mm m4 => hk _ _ _ _ _ _ _ _ m1 m2 m3 mm (k4.trans m4)
        | exit i => exact hk (.exit i) _ _ _ _ _ _ _ k1 k2 k3 km k4
        | ret => exact hk .ret _ _ _ _ _ _ _ k1 k2 k3 km k4
      · simp at ht
    | cond c x y => simp only [trC] at ht; split at ht <;> simp at ht
    | rangeFunc f ps x y => simp only [trC] at ht; split at ht <;> (try split at ht) <;> simp at ht
    | _ => simp [trC] at ht
  | cond c x y ihx ihy =>
    intro code hrf ht Q e H β F w a QQ B D h hs hf hm hB hk
    rw [er] at ht
    cases code with
    | region id ops d =>
      cases d
      · simp [trC] at ht
      · simp only [trC] at ht; exact (trDraw_no ht (by simp)).elim
    | seq x y => simp only [trC] at ht; split at ht <;> simp at ht
    | cond cc cx cy =>
      simp only [trC] at ht
      split at ht
      · rename_i vx vy hx hy
        simp only [Option.some.injEq, VCode.cond.injEq] at ht
        obtain ⟨rfl, rfl, rfl⟩ := ht
        rw [vwp] at h
        split at h
        · rename_i t hc
          have hrx : ro = none ∨ noRf x = true := hrf.imp id fun h => by simp only [noRf, Bool.and_eq_true] at h; exact h.1
          have hry : ro = none ∨ noRf y = true := hrf.imp id fun h => by simp only [noRf, Bool.and_eq_true] at h; exact h.2
          refine wpIn_cond_split (hf.env.val hc) (fun htt => ?_) (fun htf => ?_)
          · rw [if_pos htt] at h; exact ihx hrx hx h hs hf hm hB hk
          · rw [if_neg (by rw [htf]; simp)] at h; exact ihy hry hy h hs hf hm hB hk
        · exact h.elim
      · simp at ht
    | rangeFunc f ps x y => simp only [trC] at ht; split at ht <;> (try split at ht) <;> simp at ht
    | _ => simp [trC] at ht
  | block id x ih =>
    intro code hrf ht Q e H β F w a QQ B D h hs hf hm hB hk
    rw [er] at ht
    cases code with
    | region id ops d =>
      cases d
      · simp [trC] at ht
      · simp only [trC] at ht; exact (trDraw_no ht (by simp)).elim
    | seq x y => simp only [trC] at ht; split at ht <;> simp at ht
    | cond c x y => simp only [trC] at ht; split at ht <;> simp at ht
    | rangeFunc f ps x y => simp only [trC] at ht; split at ht <;> (try split at ht) <;> simp at ht
    | block id' c =>
      simp only [trC, Option.map_eq_some_iff, VCode.block.injEq] at ht
      obtain ⟨vx, hx, rfl, rfl⟩ := ht
      rw [vwp] at h
      refine wpIn_block (ih hrf hx h hs hf hm hB ?_)
      intro x e' H' β' F' w' a' D' k1 k2 k3 km k4
      cases x with
      | nor => exact hk .nor _ _ _ _ _ _ _ k1 k2 k3 km k4
      | exit i =>
        show Exit.inBlock _ QQ (.exit i) a' w'
        simp only [Exit.inBlock]
        simp only at k1
        split at k1
        · rename_i hi; rw [if_pos hi]; exact hk .nor _ _ _ _ _ _ _ k1 k2 k3 km k4
        · rename_i hi; rw [if_neg hi]; exact hk (.exit i) _ _ _ _ _ _ _ k1 k2 k3 km k4
      | ret => exact hk .ret _ _ _ _ _ _ _ k1 k2 k3 km k4
    | _ => simp [trC] at ht
  | loop lv x ih =>
    intro code hrf ht Q e H β F w a QQ B D h hs hf hm hB hk
    rw [er] at ht
    cases code with
    | region id ops d =>
      cases d
      · simp [trC] at ht
      · simp only [trC] at ht; exact (trDraw_no ht (by simp)).elim
    | seq x y => simp only [trC] at ht; split at ht <;> simp at ht
    | cond c x y => simp only [trC] at ht; split at ht <;> simp at ht
    | rangeFunc f ps x y => simp only [trC] at ht; split at ht <;> (try split at ht) <;> simp at ht
    | loop c =>
      simp only [trC, Option.map_eq_some_iff, VCode.loop.injEq] at ht
      obtain ⟨vx, hx, _, rfl⟩ := ht
      rw [vwp] at h
      obtain ⟨I, n, h0, hstep⟩ := h
      refine wpIn_loop_ghost (fun n a' w' => ∃ e' H' β' F' D', I n e' H' ∧ Sim ⟨β', H', F'⟩ w' ∧ Fr N D' ⟨β', H', F'⟩ w' e' a' ∧ Marks B ⟨β', H', F'⟩ w' D' ∧ Later ⟨β, H, F⟩ w ⟨β', H', F'⟩ w') n ⟨_, _, _, _, _, h0, hs, hf.forget lv, hm, Later.refl _ _⟩ ?_
      rintro n a' w' ⟨e', H', β', F', D', k1, k2, k3, km, k4⟩
      refine ih hrf hx (hstep n e' H' k1) k2 k3 km (Nat.le_trans hB k4.size) ?_
      intro x e2 H2 β2 F2 w2 a2 D2 m1 m2 m3 mm m4
      cases x with
      | nor =>
        obtain ⟨m, g, hmn, ⟨hg, hb⟩, hI⟩ := m1
        have hf3 := m3.forget lv
        rcases hb with hle | ⟨hbe, hbh⟩
        · rw [List.take_of_length_le hle] at hI
          exact ⟨m, hmn, _, _, _, _, _, hI, m2, hf3, mm, k4.trans m4⟩
        exact ⟨m, hmn, _, _, _, _, _, hI, m2.cut hbh, ⟨⟨fun s => Rep.cut (belowE_get hbe s) (hf3.env.1 s), hf3.env.2⟩, hf3.size, hf3.defers⟩, mm.cut, (k4.trans m4).cut hg⟩
      | exit i => exact hk (.exit i) _ _ _ _ _ _ _ m1 m2 m3 mm (k4.trans m4)
      | ret => exact hk .ret _ _ _ _ _ _ _ m1 m2 m3 mm (k4.trans m4)
    | _ => simp [trC] at ht
  | exit id =>
    intro code hrf ht Q e H β F w a QQ B D h hs hf hm hB hk
    rw [er] at ht
    cases code with
    | region id ops d =>
      cases d
      · simp [trC] at ht
      · simp only [trC] at ht; exact (trDraw_no ht (by simp)).elim
    | seq x y => simp only [trC] at ht; split at ht <;> simp at ht
    | cond c x y => simp only [trC] at ht; split at ht <;> simp at ht
    | rangeFunc f ps x y => simp only [trC] at ht; split at ht <;> (try split at ht) <;> simp at ht
    | exit id' =>
      simp only [trC, Option.some.injEq, VCode.exit.injEq] at ht; subst ht
      exact wpIn_exit (hk (.exit _) _ _ _ _ _ _ _ h hs hf hm (Later.refl _ _))
    | _ => simp [trC] at ht
  | ret =>
    intro code hrf ht Q e H β F w a QQ B D h hs hf hm hB hk
    rw [er] at ht
    cases code with
    | region id ops d =>
      cases d
      · simp [trC] at ht
      · simp only [trC] at ht; exact (trDraw_no ht (by simp)).elim
    | seq x y => simp only [trC] at ht; split at ht <;> simp at ht
    | cond c x y => simp only [trC] at ht; split at ht <;> simp at ht
    | rangeFunc f ps x y => simp only [trC] at ht; split at ht <;> (try split at ht) <;> simp at ht
    | ret => exact wpIn_ret (hk .ret _ _ _ _ _ _ _ h hs hf hm (Later.refl _ _))
    | _ => simp [trC] at ht
  | scope x ih =>
    intro code hrf ht Q e H β F w a QQ B D h hs hf hm hB hk
    rw [er] at ht
    cases code with
    | region id ops d =>
      cases d
      · simp [trC] at ht
      · simp only [trC] at ht; exact (trDraw_no ht (by simp)).elim
    | seq x y => simp only [trC] at ht; split at ht <;> simp at ht
    | cond c x y => simp only [trC] at ht; split at ht <;> simp at ht
    | rangeFunc f ps x y => simp only [trC] at ht; split at ht <;> (try split at ht) <;> simp at ht
    | _ => simp [trC] at ht
  | own s k x ih =>
    intro code hrf ht Q e H β F w a QQ B D h hs hf hm hB hk
    rw [er] at ht
    rw [vwp] at h
    split at h
    · rename_i hg
      obtain ⟨k1, k2, k3⟩ := hs.own k
      have hv : a.tmps.getD s undef = .slice none 0 0 := by
        have := hf.env.1 s; rw [hg, Rep.val] at this; exact this
      refine ih hrf ht h k1 ⟨⟨fun s' => ?_, k1.glob⟩, hf.size, hf.defers⟩ (hm.later k2) hB fun x' e' H' β' F' w' a' D' m1 m2 m3 mm m4 => hk x' e' H' β' F' w' a' D' m1 m2 m3 mm (k2.trans m4)
      rw [get_cons]
      by_cases hss : s = s'
      · subst hss; rw [if_pos rfl, hv]; exact Rep.of1 k3 (by simp) (by simp)
      · rw [if_neg hss]; exact Rep.mono (k2.mono hs) (hf.env.1 s')
    · exact ih hrf ht h hs hf hm hB hk
  | ownB s p k x ih =>
    intro code hrf ht Q e H β F w a QQ B D h hs hf hm hB hk
    rw [er] at ht
    rw [vwp] at h
    split at h
    · rename_i id ver p0 hg
      split at h
      · rename_i v y hid
        obtain ⟨rfl, h⟩ := h
        split at h
        · rename_i hgp
          split at h
          · rename_i x' hsp
            obtain ⟨k1, k2, k3⟩ := hs.own k
            have hlt : id < H.length := (List.getElem?_eq_some_iff.1 hid).1
            have hid' : (H ++ [Ob.obj 0 (.arr 0 k [])])[id]? = some (.obj v y) := by rw [List.getElem?_append_left hlt]; exact hid
            obtain ⟨q1, q2⟩ := k1.turn (o' := .obj v x') (w' := w) (β' := upd β H.length 0 none) hid' rfl rfl (Nat.le_refl _) (fun _ _ _ => rfl) (fun b off e => .inl ⟨off, e⟩) rfl rfl rfl (Nat.le_refl _) (fun _ _ => rfl) (fun _ _ _ => rfl) (fun hm => by
              rcases k1.ob id _ hid' with ⟨r0, r1⟩ | ⟨b, off, pre, vs, post, t, fr, r0, r1, r2, r3, r4⟩
              · refine .inl ⟨r0, ?_⟩
                exact RepC.mono hm (setP_same r1 hgp (fun m hm' => by rw [RepC] at hm'; rw [hm'.1]; exact k3) hsp)
              · refine .inr ⟨b, off, pre, vs, post, t, fr, r0, r1, r2, r3, ?_⟩
                exact RepC.mono hm (setP_same r4 hgp (fun m hm' => by rw [RepC] at hm'; rw [hm'.1]; exact k3) hsp))
            rw [List.set_append_left _ _ hlt] at q1 q2
            exact ih hrf ht h q1 ⟨⟨fun s' => Rep.mono (q2.mono k1) (Rep.mono (k2.mono hs) (hf.env.1 s')), q1.glob⟩, hf.size, hf.defers⟩ (hm.later (k2.trans q2)) hB fun x' e' H' β' F' w' a' D' m1 m2 m3 mm m4 => hk x' e' H' β' F' w' a' D' m1 m2 m3 mm ((k2.trans q2).trans m4)
          · exact h.elim
        · exact ih hrf ht h hs hf hm hB hk
      · exact h.elim
    · exact h.elim
  | ownT s p t x ih =>
    intro code hrf ht Q e H β F w a QQ B D h hs hf hm hB hk
    rw [er] at ht
    rw [vwp] at h
    split at h
    · rename_i id ver p0 hg
      split at h
      · rename_i v y hid
        obtain ⟨rfl, h⟩ := h
        split at h
        · rename_i hgp
          split at h
          · rename_i x' hsp
            obtain ⟨k1, k2, k3⟩ := hs.ownBld t
            have hlt : id < H.length := (List.getElem?_eq_some_iff.1 hid).1
            have hid' : (H ++ [Ob.bld 0 t []])[id]? = some (.obj v y) := by rw [List.getElem?_append_left hlt]; exact hid
            obtain ⟨q1, q2⟩ := k1.turn (o' := .obj v x') (w' := w) (β' := upd β H.length 0 none) hid' rfl rfl (Nat.le_refl _) (fun _ _ _ => rfl) (fun b off e => .inl ⟨off, e⟩) rfl rfl rfl (Nat.le_refl _) (fun _ _ => rfl) (fun _ _ _ => rfl) (fun hm => by
              rcases k1.ob id _ hid' with ⟨r0, r1⟩ | ⟨b, off, pre, vs, post, t, fr, r0, r1, r2, r3, r4⟩
              · refine .inl ⟨r0, ?_⟩
                exact RepC.mono hm (setP_same r1 hgp (fun m hm' => by rw [RepC] at hm'; rw [hm'.1]; exact k3) hsp)
              · refine .inr ⟨b, off, pre, vs, post, t, fr, r0, r1, r2, r3, ?_⟩
                exact RepC.mono hm (setP_same r4 hgp (fun m hm' => by rw [RepC] at hm'; rw [hm'.1]; exact k3) hsp))
            rw [List.set_append_left _ _ hlt] at q1 q2
            exact ih hrf ht h q1 ⟨⟨fun s' => Rep.mono (q2.mono k1) (Rep.mono (k2.mono hs) (hf.env.1 s')), q1.glob⟩, hf.size, hf.defers⟩ (hm.later (k2.trans q2)) hB fun x' e' H' β' F' w' a' D' m1 m2 m3 mm m4 => hk x' e' H' β' F' w' a' D' m1 m2 m3 mm ((k2.trans q2).trans m4)
          · exact h.elim
        · exact ih hrf ht h hs hf hm hB hk
      · exact h.elim
    · exact h.elim
  | rfunc g0 ps as bd iha ihb =>
    intro code hrf ht Q e H β F w a QQ B D h hs hf hm hB hk
    obtain rfl : ro = none := hrf.resolve_right (by simp [noRf])
    rw [er] at ht
    cases code with
    | region id ops d =>
      cases d
      · simp [trC] at ht
      · simp only [trC] at ht; exact (trDraw_no ht (by simp)).elim
    | seq x y => simp only [trC] at ht; split at ht <;> simp at ht
    | cond c x y => simp only [trC] at ht; split at ht <;> simp at ht
    | rangeFunc f0 ps0 ca cb =>
      simp only [trC] at ht
      split at ht
      · rename_i hps
        split at ht
        · rename_i va vb hca hcb
          simp only [Option.some.injEq, VCode.rfunc.injEq] at ht
          obtain ⟨rfl, rfl, rfl, rfl⟩ := ht
          rw [vwp] at h
          obtain ⟨-, -, h⟩ := h
          split at h
          · rename_i g first caps hg
            obtain ⟨hgo, h⟩ := h
            have hr : Rep ⟨β, H, F⟩ w (.fn (.func g) first caps) (a.eval f0) := hf.env.rep (x := f0) hg
            have h1 := hr.inv1 (by simp) (by simp) (by simp) (by simp) (by simp)
            rw [RepC] at h1
            obtain ⟨us, vs, hv1, hfi, hc⟩ := h1
            have hv' : a.eval f0 = .func (.func g) us.toArray vs.toArray := by simpa using hv1
            refine rfunc_sound hs hf hm hB hv' hgo hfi hc (fun fn => h N fn ca cb ⟨hca, hcb, hps⟩) hk
          · rename_i g xs ys hg
            obtain ⟨hxy, hgo, h⟩ := h
            rw [Bool.and_eq_true, Array.isEmpty_iff, Array.isEmpty_iff] at hxy
            obtain ⟨rfl, rfl⟩ := hxy
            have hv' : a.eval f0 = .func (.func g) #[] #[] := hf.env.val hg
            refine rfunc_sound (us := []) (vs := []) (first := []) (caps := []) hs hf hm hB hv' hgo (by rw [RepL]) (by rw [RepL]) (fun fn => by simpa using h N fn ca cb ⟨hca, hcb, hps⟩) hk
          · exact h.elim
        · cases ht
      · cases ht
    | _ => simp [trC] at ht
end sound
end Go.Proofs.Ytknphdcjopaaoaa
