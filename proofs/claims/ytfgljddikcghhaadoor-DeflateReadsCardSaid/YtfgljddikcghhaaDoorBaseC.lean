import Derived.Test.YtfgljddikcghhaaDoorBaseB
import Derived.RangeFuncIn
import Derived.RangeFuncRecord
import Derived.RangeFuncLeaves
import Derived.Sort.LoopGhostIn
namespace Go.Proofs.YtfgljddikcghhaaDoor
open Go.RowKit
variable [Globs]
set_option linter.unusedSectionVars false
set_option linter.unusedSimpArgs false
set_option linter.unusedVariables false
set_option autoImplicit false

inductive VCode where
 | ops (l : List VO) (keep : List Nat)
 /-- the order is open; the first nA change no object, and the others wait for all -/
 | draw (nA : Nat) (l : List VO) (keep : List Nat)
 | skip
 /-- operations of which one may end in a panic -/
 | pops (l : List VO) (keep : List Nat)
 | pdraw (n : Nat) (l : List VO) (keep : List Nat)
 /-- the same; what is looked at while a call goes on is left as it is by that call -/
 | sdraw (n : Nat) (l : List VO) (keep : List Nat)
 | seq (a b : VCode)
 | cond (c : Opd) (a b : VCode)
 | block (id : Nat) (c : VCode)
 | loop (live : List Nat) (c : VCode)
 | exit (id : Nat)
 | ret
 | scope (c : VCode)
 /-- (nothing is done) a nil slice in a slot is looked at as an object of one's own that has no cells yet -/
 | own (s k : Nat) (c : VCode)
 /-- (nothing is done) the same of a nil slice within an object -/
 | ownB (s : Nat) (p : List (Nat × Nat)) (k : Nat) (c : VCode)
 /-- (nothing is done) the same of a nil slice of one-cell elements within an object; what type its blocks will have is kept in mind -/
 | ownT (s : Nat) (p : List (Nat × Nat)) (t : TypeId) (c : VCode)
 /-- (nothing is done) a row of one's own in a slot is given away: it stays as it is from now on -/
 | frz (s : Nat) (c : VCode)
 /-- a loop over a function: the parameters' slots; the assignments to the left sides; the body -/
 | rfunc (f : Opd) (ps : List Nat) (as bd : VCode)
 /-- what this machine does not know: nothing is said of it -/
 | dead
 deriving Inhabited

/-- Without what was laid beside it. -/
def er : VCode → VCode
 | .ops l _ => .ops l []
 | .draw n l _ => .draw n l []
 | .pops l _ => .ops l []
 | .pdraw n l _ => .draw n l []
 | .sdraw n l _ => .sdraw n l []
 | .seq a b => .seq (er a) (er b)
 | .cond c a b => .cond c (er a) (er b)
 | .block id c => .block id (er c)
 | .loop _ c => .loop [] (er c)
 | .scope c => .scope (er c)
 | .own _ _ c => er c
 | .ownB _ _ _ c => er c
 | .ownT _ _ _ c => er c
 | .frz _ c => er c
 | .rfunc f ps as bd => .rfunc f ps (er as) (er bd)
 | .skip => .skip
 | .exit id => .exit id
 | .ret => .ret
 | .dead => .dead

/-- A panic of the text's own stands in it, or it writes. -/
def hasPan : Code → Bool
 | .seq a b => hasPan a || hasPan b
 | .cond _ a b => hasPan a || hasPan b
 | .block _ c => hasPan c
 | .loop c => hasPan c
 | .scope c => hasPan c
 | .region _ ops _ => ops.toList.any fun o => match o.op with | .panic _ => true | .store .. => true | _ => false
 | _ => false
/-- A call of a function that panics, or writes. -/
def isPanC (P : Program) (v : VO) : Bool := match v.op with
 | .s (.call f _) => (match P.funcs[f]? with | some fn => fn.body.any hasPan | none => false)
 | .s (.store _ _ _) => true
 | _ => false
/-- Which operations are to be quiet: none that panics, if what they look at may be looked at later on. -/
def pickDraw (P : Program) (ops : List Oper) (l : List VO) (n : Nat) : Option VCode := match (List.range (n + 1)).find? (chkDraw [] ops l) with
 | some k => if (l.take k).any (isPanC P) then (match (List.range (n + 1)).find? (chkDraw (ssOf l) ops l) with
   | some j => some (.sdraw j l [])
   | none => none) else some (.draw k l [])
 | none => none
theorem pickDraw_spec {P : Program} {ops : List Oper} {l : List VO} {n : Nat} {c : VCode} (h : pickDraw P ops l n = some c) : ∃ k, (c = .draw k l [] ∧ chkDraw [] ops l k = true) ∨ (c = .sdraw k l [] ∧ chkDraw (ssOf l) ops l k = true) := by
 unfold pickDraw at h
 split at h
 ·rename_i k hk
  split at h
  ·split at h
   ·rename_i j hj; cases h; exact ⟨j, .inr ⟨rfl, List.find?_some hj⟩⟩
   ·cases h
  ·cases h; exact ⟨k, .inl ⟨rfl, List.find?_some hk⟩⟩
 ·cases h
def trDraw (P : Program) (N : Nat) (ops : Array Oper) : Option VCode := match trL P N ops.toList ops.toList with
 | some l => if P.follows .mixedOrders then (if l.any isBstr || l.any (isPanC P) then (match trL P N (permOps ops.toList (piOf ops.toList l)) (permOps ops.toList (piOf ops.toList l)) with
   | some l' => if isPerm (piOf ops.toList l) ops.toList.length then pickDraw P (permOps ops.toList (piOf ops.toList l)) l' ops.size else none
   | none => none)
  else ((List.range (ops.size + 1)).find? (chkDraw [] ops.toList l)).map fun n => .draw n l []) else none
 | none => none
theorem trDraw_spec {P : Program} {N : Nat} {ops : Array Oper} {c : VCode} (h : trDraw P N ops = some c) : (∃ n l, c = .draw n l [] ∧ P.follows .mixedOrders = true ∧
  ((trL P N ops.toList ops.toList = some l ∧ chkDraw [] ops.toList l n = true) ∨ ∃ π, isPerm π ops.toList.length = true ∧ trL P N (permOps ops.toList π) (permOps ops.toList π) = some l ∧ chkDraw [] (permOps ops.toList π) l n = true)) ∨
  ∃ n l, c = .sdraw n l [] ∧ P.follows .mixedOrders = true ∧ ∃ π, isPerm π ops.toList.length = true ∧ trL P N (permOps ops.toList π) (permOps ops.toList π) = some l ∧ chkDraw (ssOf l) (permOps ops.toList π) l n = true := by
 unfold trDraw at h
 split at h
 ·rename_i l hl
  split at h
  ·rename_i hm
   split at h
   ·split at h
    ·rename_i l' hl'
     split at h
     ·rename_i hp
      obtain ⟨k, ⟨rfl, hk⟩ | ⟨rfl, hk⟩⟩ := pickDraw_spec h
      ·exact .inl ⟨k, l', rfl, hm, .inr ⟨_, hp, hl', hk⟩⟩
      ·exact .inr ⟨k, l', rfl, hm, _, hp, hl', hk⟩
     ·cases h
    ·cases h
   ·obtain ⟨n, hn, rfl⟩ := Option.map_eq_some_iff.1 h
    exact .inl ⟨n, l, rfl, hm, .inl ⟨hl, List.find?_some hn⟩⟩
  ·cases h
 ·cases h
theorem trDraw_no {P : Program} {N : Nat} {ops : Array Oper} {c : VCode} (h : trDraw P N ops = some c) (hc : ∀ n l, c ≠ .draw n l []) (hc2 : ∀ n l, c ≠ .sdraw n l []) : False := by
 rcases trDraw_spec h with ⟨n, l, e, _⟩ | ⟨n, l, e, _⟩
 ·exact hc n l e
 ·exact hc2 n l e
def trC (P : Program) (N : Nat) : Code → Option VCode
 | .skip => some .skip
 | .region _ ops false => some (match trL P N ops.toList ops.toList with | some l => .ops l [] | none => .dead)
 | .region _ ops true => some (match trDraw P N ops with | some c => c | none => .dead)
 | .seq a b => match trC P N a, trC P N b with
  | some a, some b => some (.seq a b)
  | _, _ => none
 | .cond c a b => match trC P N a, trC P N b with
  | some a, some b => some (.cond (trO c) a b)
  | _, _ => none
 | .block id c => (trC P N c).map (.block id)
 | .loop c => (trC P N c).map (.loop [])
 | .exit id => some (.exit id)
 | .scope c => (trC P N c).map .scope
 | .label _ => some .skip
 | .ret => some .ret
 | .rangeFunc f ps as bd => if ps.toList.all (· < N) then (match trC P N as, trC P N bd with
  | some as, some bd => some (.rfunc (trO f) ps.toList as bd)
  | _, _ => none) else none
 | _ => some .dead
theorem trC_f {P : Program} {N id : Nat} {ops : Array Oper} {c : VCode} (h : trC P N (.region id ops false) = some c) : (∃ l, trL P N ops.toList ops.toList = some l ∧ c = .ops l []) ∨ c = .dead := by
 simp only [trC, Option.some.injEq] at h
 split at h
 ·rename_i l hl; exact .inl ⟨l, hl, h.symm⟩
 ·exact .inr h.symm
theorem trC_t {P : Program} {N id : Nat} {ops : Array Oper} {c : VCode} (h : trC P N (.region id ops true) = some c) : trDraw P N ops = some c ∨ c = .dead := by
 simp only [trC, Option.some.injEq] at h
 split at h
 ·rename_i l hl; exact .inl (hl.trans (by rw [h]))
 ·exact .inr h.symm
theorem trC_f_no {P : Program} {N id : Nat} {ops : Array Oper} {c : VCode} (h : trC P N (.region id ops false) = some c) (hc : ∀ l, c ≠ .ops l []) (hd : c ≠ .dead) : False := by
 rcases trC_f h with ⟨l, _, e⟩ | e
 ·exact hc l e
 ·exact hd e
theorem trC_t_no {P : Program} {N id : Nat} {ops : Array Oper} {c : VCode} (h : trC P N (.region id ops true) = some c) (hc : ∀ n l, c ≠ .draw n l []) (hc2 : ∀ n l, c ≠ .sdraw n l []) (hd : c ≠ .dead) : False := by
 rcases trC_t h with e | e
 ·exact trDraw_no e hc hc2
 ·exact hd e

/-- No loop over a function in it. -/
def noRf : VCode → Bool
 | .seq a b => noRf a && noRf b
 | .cond _ a b => noRf a && noRf b
 | .block _ c => noRf c
 | .loop _ c => noRf c
 | .scope c => noRf c
 | .own _ _ c => noRf c
 | .ownB _ _ _ c => noRf c
 | .ownT _ _ _ c => noRf c
 | .frz _ c => noRf c
 | .rfunc _ _ _ _ => false
 | _ => true

inductive VEx where
 | nor
 | exit (id : Nat)
 | ret
 | pan (u : Value)

def VEx.ex : VEx → Exit
 | .nor => .normal
 | .exit id => .exit id
 | .ret => .ret
 | .pan u => .panic [{ v := u, recovered := false }]

mutual
/-- It refers to no object from g on. -/
def belowT (g : Nat) : TV → Bool
 | .op id _ _ => decide (id < g)
 | .os _ id _ _ _ _ _ => decide (id < g)
 | .mp id _ => decide (id < g)
 | .yl id _ => decide (id < g)
 | .agg cs => belowL g cs
 | .tup cs => belowL g cs
 | .ifc _ x => belowT g x
 | .fn _ a b => belowL g a && belowL g b
 | _ => true
def belowL (g : Nat) : List TV → Bool
 | [] => true
 | x :: xs => belowT g x && belowL g xs
end
def belowE (g : Nat) : Env → Bool
 | [] => true
 | (_, x) :: e => belowT g x && belowE g e
def belowO (g : Nat) : Ob → Bool
 | .obj _ x => belowT g x
 | .ice _ _ x => belowT g x
 | .fact id _ _ _ => decide (id < g)
 | .lp _ _ _ _ e _ _ _ => belowE g e
 | .mpo _ es => belowL g (es.map (·.2))
 | .bld _ _ _ => true
 | .sit _ _ => true
 | .gone _ => true
def belowH (g : Nat) : List Ob → Bool
 | [] => true
 | o :: H => belowO g o && belowH g H
/-- How a loop over a function is left. -/
def RfPost (Q : VEx → Env → List Ob → Prop) (e : Env) (L : Nat) : TV → List Ob → Prop := fun _ H' => match H'[L]? with
 | some (.lp .ready none fn N e1 ps ca cb) => Q .nor e (H'.set L (.lp .exhausted none fn N e1 ps ca cb))
 | some (.lp .done (some .ret) fn N e1 ps ca cb) => Q .ret e (H'.set L (.lp .exhausted (some .ret) fn N e1 ps ca cb))
 | some (.lp .done (some (.exit i)) fn N e1 ps ca cb) => Q (.exit i) e (H'.set L (.lp .exhausted (some (.exit i)) fn N e1 ps ca cb))
 | _ => False
/-- The code of a loop's record is this. -/
structure RfCode (P : Program) (N : Nat) (ps : List Nat) (ca cb : Code) (as bd : VCode) : Prop where
 a : trC P N ca = some (er as)
 b : trC P N cb = some (er bd)
 p : ps.all (· < N) = true

def vwp (P : Program) : VCode → (VEx → Env → List Ob → Prop) → Env → List Ob → Prop
 | .ops l kp, Q, e, H => vops P l (fun e H => Q .nor (forget kp e) H) e H
 | .pops l kp, Q, e, H => pvops P (fun u H => Q (.pan u) (dropE l e) H) l (fun e H => Q .nor (forget kp e) H) e H
 | .pdraw n l kp, Q, e, H => vq P (l.take n) (fun e => pvops P (fun u H => Q (.pan u) [] H) (l.drop n) (fun e H => Q .nor (forget kp e) H) e H) e H
 | .sdraw n l kp, Q, e, H => vq P (l.take n) (fun e => wops (pvopS P (fun u H => Q (.pan u) [] H) (ssOf l)) (l.drop n) (fun e H => Q .nor (forget kp e) H) e H) e H
 | .draw n l kp, Q, e, H => vq P (l.take n) (fun e => vops P (l.drop n) (fun e H => Q .nor (forget kp e) H) e H) e H
 | .skip, Q, e, H => Q .nor e H
 | .seq a b, Q, e, H => vwp P a (fun x e H => match x with | .nor => vwp P b Q e H | .exit i => Q (.exit i) e H | .ret => Q .ret e H | .pan u => Q (.pan u) e H) e H
 | .cond c a b, Q, e, H => match c.ev e with
  | .val (.bool t) => if t = true then vwp P a Q e H else vwp P b Q e H
  | _ => False
 | .block id c, Q, e, H => vwp P c (fun x e H => match x with | .nor => Q .nor e H | .exit i => if i = id then Q .nor e H else Q (.exit i) e H | .ret => Q .ret e H | .pan u => Q (.pan u) e H) e H
 | .loop lv c, Q, e, H0 => ∃ (I : Nat → Env → List Ob → Prop) (n : Nat), I n (forget lv e) H0 ∧
   ∀ n e H, I n e H → vwp P c (fun x e H => match x with | .nor => ∃ m g, m < n ∧ (H0.length ≤ g ∧ (H.length ≤ g ∨ (belowE g (forget lv e) = true ∧ belowH g (H.take g) = true))) ∧ I m (forget lv e) (H.take g) | .exit i => Q (.exit i) e H | .ret => Q .ret e H | .pan u => Q (.pan u) e H) e H
 | .exit id, Q, e, H => Q (.exit id) e H
 | .ret, Q, e, H => Q .ret e H
 | .scope c, Q, e, H => vwp P c Q e H
 | .dead, _, _, _ => False
 | .own s k c, Q, e, H => match get e s with
  | .val (.slice none 0 0) => vwp P c Q ((s, .os k H.length 0 [] 0 0 0) :: e) (H ++ [.obj 0 (.arr 0 k [])])
  | _ => vwp P c Q e H
 | .ownB s p k c, Q, e, H => match get e s with
  | .op id ver p0 => (match H[id]? with
   | some (.obj v x) => v = ver ∧ (match getP (p0 ++ p) x with
    | some (.val (.slice none 0 0)) => (match setP (p0 ++ p) x (.os k H.length 0 [] 0 0 0) with
     | some x' => vwp P c Q e (H.set id (.obj ver x') ++ [.obj 0 (.arr 0 k [])])
     | none => False)
    | _ => vwp P c Q e H)
   | _ => False)
  | _ => False
 | .ownT s p t c, Q, e, H => match get e s with
  | .op id ver p0 => (match H[id]? with
   | some (.obj v x) => v = ver ∧ (match getP (p0 ++ p) x with
    | some (.val (.slice none 0 0)) => (match setP (p0 ++ p) x (.os 1 H.length 0 [] 0 0 0) with
     | some x' => vwp P c Q e (H.set id (.obj ver x') ++ [.bld 0 t []])
     | none => False)
    | _ => vwp P c Q e H)
   | _ => False)
  | _ => False
 | .frz s c, Q, e, H => match get e s with
  | .os k id ver p off n _ => (match H[id]? with
   | some (.obj v x) => v = ver ∧ (match elemsAt p k off n x with
    | some cs => vwp P c Q ((s, .sl k cs) :: e) (H.set id (.gone ver))
    | none => False)
   | _ => False)
  | _ => False
 | .rfunc f ps as bd, Q, e, H => noRf as = true ∧ noRf bd = true ∧ (match f.ev e with
  | .fn (.func g) first caps => isGo P g = true ∧ ∀ (N : Nat) (fn : FuncId) (ca cb : Code), RfCode P N ps ca cb as bd → VCalls P g (first ++ [.yl H.length 0] ++ caps) (H ++ [.lp .ready none fn N e ps ca cb]) (RfPost Q e H.length)
  | .val (.func (.func g) xs ys) => (xs.isEmpty && ys.isEmpty) = true ∧ isGo P g = true ∧ ∀ (N : Nat) (fn : FuncId) (ca cb : Code), RfCode P N ps ca cb as bd → VCalls P g [.yl H.length 0] (H ++ [.lp .ready none fn N e ps ca cb]) (RfPost Q e H.length)
  | _ => False)

section sound
variable {P : Program}
/-- The same cells, read otherwise. -/
theorem setP_same {c : Ctx} {w : World} : ∀ {p : List (Nat × Nat)} {x y z x' : TV} {us : List Value}, RepC c w x us → getP p x = some z → (∀ m, RepC c w z m → RepC c w y m) → setP p x y = some x' → RepC c w x' us := by
 intro p x y z x' us h hg hm hs
 obtain ⟨a, m, b, rfl, h1, h2⟩ := getP_spec h hg
 obtain ⟨a', m', b', e, h3, h4, h5, _⟩ := setP_spec h hs (hm m h2)
 have e1 : a = a' := by
  have := congrArg (List.take a.length) e
  rw [List.append_assoc, List.append_assoc, List.take_left] at this
  rw [this, List.take_left' (by omega)]
 subst e1
 rw [List.append_assoc, List.append_assoc] at e
 have e2 := List.append_cancel_left e
 have e3 : m = m' := by
  have := congrArg (List.take m.length) e2
  rw [List.take_left] at this
  rw [this, List.take_left' (by omega)]
 subst e3
 have e4 := List.append_cancel_left e2
 subst e4
 exact h5

/-- A row that is given away, read as it stays. -/
theorem Sim.give {β : Nat → Nat → Option (Nat × Nat)} {H : List Ob} {F : Nat → Prop} {w : World} (hs : Sim ⟨β, H, F⟩ w) {k id ver off n cp : Nat} {p : List (Nat × Nat)} {x : TV} {cs : List TV} (hid : H[id]? = some (.obj ver x)) (hcs : elemsAt p k off n x = some cs) {us : List Value} (hr : RepC ⟨β, H, F⟩ w (.os k id ver p off n cp) us) :
  RepC ⟨β, H.set id (.gone ver), fun b => F b ∨ ∃ off, β id ver = some (b, off)⟩ w (.sl k cs) us := by
 have hm : Mono (Ctx.bare ⟨β, H, F⟩) w (Ctx.bare ⟨β, H.set id (.gone ver), fun b => F b ∨ ∃ off, β id ver = some (b, off)⟩) w :=
  ⟨fun b hb => ⟨.inl hb, rfl⟩, fun _ _ k => (Ctx.bare_has k).elim, fun _ _ => rfl⟩
 rw [RepC] at hr
 obtain ⟨hr1, hr2⟩ := hr
 rcases hr2 with ⟨rfl, a0, hr2, _⟩ | ⟨b0, o0, cap, t0, m0, hr2, hr3, hr4, hr5, hr6, hr7⟩
 ·have : cs = [] := by
   unfold elemsAt at hcs
   split at hcs
   ·split at hcs
    ·cases hcs; simp
    ·cases hcs
   ·cases hcs
  subst this
  rw [RepC]
  exact ⟨by simp, .inl ⟨rfl, a0, 0, hr2, by omega⟩⟩
 rcases hs.ob id _ hid with ⟨h0, _⟩ | ⟨b, off', pre, vs, post, t, fr, h0, h1, h2, h3, h4⟩
 ·have h0' : β id ver = none := h0
  have hr2' : β id ver = some (b0, o0) := hr2
  rw [h0'] at hr2'; cases hr2'
 have h0' : β id ver = some (b, off') := h0
 have hr2' : β id ver = some (b0, o0) := hr2
 rw [h0'] at hr2'
 obtain ⟨rfl, rfl⟩ : b = b0 ∧ off' = o0 := by simpa using hr2'
 obtain ⟨a, m, q, rfl, k1, k2, k3, k4⟩ := elemsAt_spec h4 hcs
 rw [RepC]
 refine ⟨k3, .inr ⟨b, off' + span p + off * k, cap, m, by rw [k4]; exact hr3, by omega, hr5, .inr ⟨off', h0'⟩, RepCs.mono hm k2, ?_⟩⟩
 have e : off' + span p + off * k = pre.length + a.length := by rw [h3, k1]; omega
 rw [e]; exact cells_mid h1

theorem Sim.own {β : Nat → Nat → Option (Nat × Nat)} {H : List Ob} {F : Nat → Prop} {w : World} (hs : Sim ⟨β, H, F⟩ w) (k : Nat) :
  Sim ⟨upd β H.length 0 none, H ++ [.obj 0 (.arr 0 k [])], F⟩ w ∧ Later ⟨β, H, F⟩ w ⟨upd β H.length 0 none, H ++ [.obj 0 (.arr 0 k [])], F⟩ w ∧
   RepC ⟨upd β H.length 0 none, H ++ [.obj 0 (.arr 0 k [])], F⟩ w (.os k H.length 0 [] 0 0 0) [.slice none 0 0] := by
 obtain ⟨k1, k2⟩ := hs.newNone (x := .arr 0 k []) (by rw [RepC]; exact ⟨rfl, by simp, by rw [RepCs]⟩)
 exact ⟨k1, k2, by rw [RepC]; exact ⟨has_new _ _ _ _ _ (Nat.le_refl _), .inl ⟨rfl, none, rfl, rfl, fun _ h => by cases h⟩⟩⟩

theorem Sim.ownBld {β : Nat → Nat → Option (Nat × Nat)} {H : List Ob} {F : Nat → Prop} {w : World} (hs : Sim ⟨β, H, F⟩ w) (t : TypeId) :
  Sim ⟨upd β H.length 0 none, H ++ [.bld 0 t []], F⟩ w ∧ Later ⟨β, H, F⟩ w ⟨upd β H.length 0 none, H ++ [.bld 0 t []], F⟩ w ∧
   RepC ⟨upd β H.length 0 none, H ++ [.bld 0 t []], F⟩ w (.os 1 H.length 0 [] 0 0 0) [.slice none 0 0] := by
 obtain ⟨k1, k2⟩ := hs.new (.bld 0 t []) rfl none (w' := w) (fun b off e => by cases e) rfl rfl rfl (Nat.le_refl _) (fun b hb => rfl) fun hm => .inl ⟨upd_same, rfl⟩
 exact ⟨k1, k2, by rw [RepC]; exact ⟨has_new _ _ _ _ _ (Nat.le_refl _), .inl ⟨rfl, none, rfl, rfl, fun _ h => by cases h⟩⟩⟩

/-- Objects that nobody knows any more are forgotten. -/
def Ctx.cut (c : Ctx) (g : Nat) : Ctx := ⟨c.β, c.H.take g, c.F⟩
theorem Ctx.cut_has {c : Ctx} {g id ver : Nat} (h : c.has id ver) (hg : id < g) : (c.cut g).has id ver := by
 obtain ⟨o, h1, h2⟩ := h
 exact ⟨o, by show (c.H.take g)[id]? = some o; rw [List.getElem?_take, if_pos hg]; exact h1, h2⟩
theorem Ctx.cut_get {c : Ctx} {g id : Nat} {o : Ob} (h : (c.cut g).H[id]? = some o) : id < g ∧ c.H[id]? = some o := by
 have h' : (c.H.take g)[id]? = some o := h
 rw [List.getElem?_take] at h'
 split at h'
 ·exact ⟨‹_›, h'⟩
 ·cases h'
mutual
theorem RepC.cut {c : Ctx} {w : World} {g : Nat} : ∀ {x : TV} {us : List Value}, belowT g x = true → RepC c w x us → RepC (c.cut g) w x us
 | .val y, us, hf, hr => by rw [RepC] at hr ⊢; exact hr
 | .any, us, hf, hr => by rw [RepC] at hr ⊢; exact hr
 | .sl k cs, us, hf, hr => by rw [RepC] at hr ⊢; exact hr
 | .fp x, us, hf, hr => by rw [RepC] at hr ⊢; exact hr
 | .arr n k cs, us, hf, hr => by rw [RepC] at hr ⊢; exact hr
 | .op id ver p, us, hf, hr => by
  rw [belowT, decide_eq_true_eq] at hf; rw [RepC] at hr ⊢; exact ⟨Ctx.cut_has hr.1 hf, hr.2⟩
 | .os k id ver p off n cp, us, hf, hr => by
  rw [belowT, decide_eq_true_eq] at hf; rw [RepC] at hr ⊢; exact ⟨Ctx.cut_has hr.1 hf, hr.2⟩
 | .mp id ver, us, hf, hr => by
  rw [belowT, decide_eq_true_eq] at hf; rw [RepC] at hr ⊢; exact ⟨Ctx.cut_has hr.1 hf, hr.2⟩
 | .yl id ver, us, hf, hr => by
  rw [belowT, decide_eq_true_eq] at hf; rw [RepC] at hr ⊢; exact ⟨Ctx.cut_has hr.1 hf, hr.2⟩
 | .agg cs, us, hf, hr => by rw [belowT] at hf; rw [RepC] at hr ⊢; exact RepCs.cut hf hr
 | .tup cs, us, hf, hr => by rw [RepC] at hr; exact hr.elim
 | .ifc t x, us, hf, hr => by
  rw [belowT] at hf; rw [RepC] at hr ⊢
  obtain ⟨u, h1, vs, h2, h3⟩ := hr
  exact ⟨u, h1, vs, RepC.cut hf h2, h3⟩
 | .fn f a b, us, hf, hr => by
  rw [belowT, Bool.and_eq_true] at hf; rw [RepC] at hr ⊢
  obtain ⟨as, bs, h1, h2, h3⟩ := hr
  exact ⟨as, bs, h1, RepL.cut hf.1 h2, RepL.cut hf.2 h3⟩
theorem RepCs.cut {c : Ctx} {w : World} {g : Nat} : ∀ {xs : List TV} {us : List Value}, belowL g xs = true → RepCs c w xs us → RepCs (c.cut g) w xs us
 | [], us, hf, hr => by rw [RepCs] at hr ⊢; exact hr
 | x :: xs, us, hf, hr => by
  rw [belowL, Bool.and_eq_true] at hf; rw [RepCs] at hr ⊢
  obtain ⟨a, b, h1, h2, h3⟩ := hr
  exact ⟨a, b, h1, RepC.cut hf.1 h2, RepCs.cut hf.2 h3⟩
theorem RepL.cut {c : Ctx} {w : World} {g : Nat} : ∀ {xs : List TV} {us : List Value}, belowL g xs = true → RepL c w xs us → RepL (c.cut g) w xs us
 | [], us, hf, hr => by rw [RepL] at hr ⊢; exact hr
 | x :: xs, us, hf, hr => by
  rw [belowL, Bool.and_eq_true] at hf; rw [RepL] at hr ⊢
  obtain ⟨u, us, h1, h2, h3⟩ := hr
  refine ⟨u, us, h1, ?_, RepL.cut hf.2 h3⟩
  rcases h2 with h2 | h2 | ⟨as, h2, h4⟩
  ·exact .inl h2
  ·exact .inr (.inl h2)
  ·exact .inr (.inr ⟨as, RepC.cut hf.1 h2, h4⟩)
end
theorem Rep.cut {c : Ctx} {w : World} {g : Nat} {x : TV} {v : Value} (hf : belowT g x = true) (hr : Rep c w x v) : Rep (c.cut g) w x v := by
 rcases hr with (h | h | ⟨us, h, h'⟩) | ⟨xs, vs, rfl, h2, h3⟩
 ·exact .inl (.inl h)
 ·exact .inl (.inr (.inl h))
 ·exact .inl (.inr (.inr ⟨us, RepC.cut hf h, h'⟩))
 ·rw [belowT] at hf; exact .inr ⟨xs, vs, rfl, h2, RepL.cut hf h3⟩
theorem belowE_get {g : Nat} : ∀ {e : Env}, belowE g e = true → ∀ s, belowT g (get e s) = true
 | [], _, s => rfl
 | (k, x) :: e, h, s => by
  rw [belowE, Bool.and_eq_true] at h
  rw [get_cons]
  split
  ·exact h.1
  ·exact belowE_get h.2 s
theorem belowH_get {g : Nat} : ∀ {H : List Ob}, belowH g H = true → ∀ (i : Nat) (o : Ob), H[i]? = some o → belowO g o = true
 | [], _, i, o, h => by simp at h
 | o :: H, h, i, o', hi => by
  rw [belowH, Bool.and_eq_true] at h
  cases i with
  | zero => simp at hi; subst hi; exact h.1
  | succ i => exact belowH_get h.2 i o' (by simpa using hi)
theorem EntsOk.cut {c : Ctx} {w : World} {g : Nat} {kk : MK} : ∀ {es : List (List UInt8 × TV)} {ms : List MapEntry}, belowL g (es.map (·.2)) = true → EntsOk c w kk es ms → EntsOk (c.cut g) w kk es ms
 | [], ms, _, h => h
 | (k, x) :: es, ms, hb, h => by
  rw [List.map_cons, belowL, Bool.and_eq_true] at hb
  obtain ⟨m, r, rfl, h1, h2, h3⟩ := h
  exact ⟨m, r, rfl, h1, ⟨RepC.cut hb.1 h2.1, h2.2⟩, EntsOk.cut hb.2 h3⟩
theorem Sim.cut {c : Ctx} {w : World} {g : Nat} (hs : Sim c w) (hg : belowH g (c.H.take g) = true) : Sim (c.cut g) w := by
 have hown : ∀ b, (c.cut g).own b → c.own b := by
  rintro b ⟨i, o, off, h1, h2, h3⟩
  exact ⟨i, o, off, (Ctx.cut_get h1).2, h2, h3⟩
 refine ⟨fun id o ho => ?_, fun i j x y b o o' hx hy hlx hly e e' => hs.inj i j x y b o o' (Ctx.cut_get hx).2 (Ctx.cut_get hy).2 hlx hly e e', fun b hb => hs.apart b (hown b hb), hs.lt, hs.glob⟩
 have h1 := hs.ob id o (Ctx.cut_get ho).2
 have hb := belowH_get hg id o ho
 cases o with
 | gone v => trivial
 | ice v m x =>
  obtain ⟨b, off, pre, vs, post, t, fr, h0, h1, h2, h3, h4⟩ := h1
  exact ⟨b, off, pre, vs, post, t, fr, h0, h1, h2, h3, RepC.cut hb h4⟩
 | bld v t l => exact h1
 | fact i v t m =>
  obtain ⟨h0, h2⟩ := h1
  exact ⟨Ctx.cut_has h0 (by simpa [belowO] using hb), h2⟩
 | lp st pend fn N en ps ca cb =>
  obtain ⟨b, tmps, D, h0, h1, h2, h3⟩ := h1
  exact ⟨b, tmps, D, h0, h1, h2, fun s => Rep.cut (belowE_get hb s) (h3 s)⟩
 | mpo kk es =>
  obtain ⟨b, ms, cl, h0, h1, h2, h3⟩ := h1
  exact ⟨b, ms, cl, h0, h1, EntsOk.cut hb h2, h3⟩
 | sit s pos => exact h1
 | obj v x =>
  rcases h1 with ⟨h0, h4⟩ | ⟨b, off, pre, vs, post, t, fr, h0, h1, h2, h3, h4⟩
  ·exact .inl ⟨h0, RepC.cut hb h4⟩
  ·exact .inr ⟨b, off, pre, vs, post, t, fr, h0, h1, h2, h3, RepC.cut hb h4⟩
theorem Later.cut {c0 c : Ctx} {w0 w : World} {g : Nat} (hl : Later c0 w0 c w) (hg : c0.H.length ≤ g) : Later c0 w0 (c.cut g) w :=
 ⟨hl.os, hl.tape, hl.output, hl.size, fun id ver h => by
  obtain ⟨h1, h2⟩ := hl.has id ver h
  exact ⟨Ctx.cut_has h1 (Nat.lt_of_lt_of_le (Ctx.has_lt h) hg), h2⟩, hl.shape, hl.same, hl.keepF, hl.oldF, fun b hb ⟨i, o, off, h1, h2, h3⟩ => hl.oldOwn b hb ⟨i, o, off, (Ctx.cut_get h1).2, h2, h3⟩⟩

/-- The blocks for the calls that rounds defer: each holds none. -/
def Marks (D0 : List Deferred) (B : Nat) (c : Ctx) (w : World) (D : List Deferred) : Prop := ∃ ds : List Nat, D = ds.map (fun r => { target := .collected r, args := #[] }) ++ D0 ∧ ds.Nodup ∧ ∀ r ∈ ds, B ≤ r ∧ r < w.heap.size ∧ ¬ c.own r ∧ ¬ c.F r ∧ w.heap[r]? = some (.deferred (some []))
theorem Marks.nil {D0 : List Deferred} {B : Nat} {c : Ctx} {w : World} : Marks D0 B c w D0 := ⟨[], rfl, List.nodup_nil, fun r h => by cases h⟩
theorem Marks.later {D0 : List Deferred} {B : Nat} {c c' : Ctx} {w w' : World} {D : List Deferred} (h : Marks D0 B c w D) (hl : Later c w c' w') : Marks D0 B c' w' D := by
 obtain ⟨ds, h1, h2, h3⟩ := h
 refine ⟨ds, h1, h2, fun r hr => ?_⟩
 obtain ⟨k1, k2, k3, k4, k5⟩ := h3 r hr
 exact ⟨k1, Nat.lt_of_lt_of_le k2 hl.size, fun h => k3 (hl.oldOwn r k2 h), fun h => (hl.oldF r k2 h).elim k4 k3, (hl.same r k2 k3).trans k5⟩
theorem Marks.cut {D0 : List Deferred} {B g : Nat} {c : Ctx} {w : World} {D : List Deferred} (h : Marks D0 B c w D) : Marks D0 B (c.cut g) w D := by
 obtain ⟨ds, h1, h2, h3⟩ := h
 refine ⟨ds, h1, h2, fun r hr => ?_⟩
 obtain ⟨k1, k2, k3, k4, k5⟩ := h3 r hr
 exact ⟨k1, k2, fun ⟨i, o, off, h1, h2, h3⟩ => k3 ⟨i, o, off, (Ctx.cut_get h1).2, h2, h3⟩, k4, k5⟩

theorem putObj_os (w : World) (r : Nat) (o : Obj) : (w.putObj r o).os = w.os ∧ (w.putObj r o).tape = w.tape ∧ (w.putObj r o).output = w.output ∧ (w.putObj r o).heap.size = w.heap.size := ⟨rfl, rfl, rfl, by simp [World.putObj]⟩
theorem shape_loop {w : World} {b : Nat} {r : Loop} (h : w.heap[b]? = some (.loop r)) : w.shape? b = none := by simp [World.shape?, h]

/-- A loop's record turns. -/
theorem Sim.loopTurn {β : Nat → Nat → Option (Nat × Nat)} {H : List Ob} {F : Nat → Prop} {w : World} (hs : Sim ⟨β, H, F⟩ w) {id N : Nat} {fn : FuncId} {e : Env} {ps : List Nat} {ca cb : Code} {st st' : LoopState} {pe pe' : Option Code}
  (ho : H[id]? = some (.lp st pe fn N e ps ca cb)) : ∃ (b : Nat) (r : Loop), β id 0 = some (b, 0) ∧ w.heap[b]? = some (.loop r) ∧ r.state = st ∧ r.pending = pe ∧ r.fn = fn ∧ r.tmps.size = N ∧ r.params = ps.toArray ∧ r.assign = ca ∧ r.body = cb ∧ (∀ s, Rep ⟨β, H, F⟩ w (get e s) (r.tmps.getD s undef)) ∧
   Sim ⟨β, H.set id (.lp st' pe' fn N e ps ca cb), F⟩ (w.putObj b (.loop { r with state := st', pending := pe' })) ∧
   Later ⟨β, H, F⟩ w ⟨β, H.set id (.lp st' pe' fn N e ps ca cb), F⟩ (w.putObj b (.loop { r with state := st', pending := pe' })) := by
 obtain ⟨b, tmps, D, h1, h2, h3, h4⟩ := hs.ob id _ ho
 have hlt : b < w.heap.size := (Array.getElem?_eq_some_iff.1 h2).1
 have hid : id < H.length := (List.getElem?_eq_some_iff.1 ho).1
 have hput := World.putObj_heap_same (w := w) (o := .loop { state := st', pending := pe', fn := fn, tmps := tmps, params := ps.toArray, assign := ca, body := cb, defers := D }) hlt
 obtain ⟨k1, k2⟩ := hs.turn (β' := β) (w' := w.putObj b (.loop { state := st', pending := pe', fn := fn, tmps := tmps, params := ps.toArray, assign := ca, body := cb, defers := D })) ho (o' := .lp st' pe' fn N e ps ca cb) rfl rfl (Nat.le_refl _) (fun _ _ _ => rfl) (fun b' off hb => .inl ⟨off, hb⟩) rfl rfl rfl
  (by rw [(putObj_os _ _ _).2.2.2]; exact Nat.le_refl _) (fun b' hb' => by
   by_cases hbb : b' = b
   ·subst hbb; rw [shape_loop h2, shape_loop hput]
   ·exact shape_of_block (World.putObj_heap_other hbb)) (fun b' hb' hne => World.putObj_heap_other (fun e => hne 0 (by subst e; exact h1)))
  (fun hm => ⟨b, tmps, D, h1, hput, h3, fun s => Rep.mono hm (h4 s)⟩)
 exact ⟨b, { state := st, pending := pe, fn := fn, tmps := tmps, params := ps.toArray, assign := ca, body := cb, defers := D }, h1, h2, rfl, rfl, rfl, h3, rfl, rfl, rfl, h4, k1, k2⟩


/-- THE STATEMENT 'for .. := range g'. -/
theorem rfunc_sound {N nn : Nat} {f0 : Operand} {ps0 : Array Tmp} {ca cb : Code} {Q : VEx → Env → List Ob → Prop} {e : Env} {H : List Ob} {β : Nat → Nat → Option (Nat × Nat)} {F : Nat → Prop} {w : World} {a : Act} {QQ : Exit → Act → World → Prop} {B : Nat} {D D0 : List Deferred}
  (hs : Sim ⟨β, H, F⟩ w) (hf : Fr N D ⟨β, H, F⟩ w e a) (hm : Marks D0 B ⟨β, H, F⟩ w D) (hB : B ≤ w.heap.size) {g : FuncId} {us vs : List Value} {first caps : List TV} (hv : a.eval f0 = .func (.func g) us.toArray vs.toArray) (hgo : isGo P g = true) (hfi : RepL ⟨β, H, F⟩ w first us) (hc : RepL ⟨β, H, F⟩ w caps vs)
  (h : ∀ fn, VCalls P g (first ++ [.yl H.length 0] ++ caps) (H ++ [.lp .ready none fn N e ps0.toList ca cb]) (RfPost Q e H.length))
  (hk : ∀ x e' H' β' F' w' a' D', Q x e' H' → Sim ⟨β', H', F'⟩ w' → Fr N D' ⟨β', H', F'⟩ w' e' a' → Marks D0 B ⟨β', H', F'⟩ w' D' → Later ⟨β, H, F⟩ w ⟨β', H', F'⟩ w' → QQ x.ex a' w') : (Code.rangeFunc f0 ps0 ca cb).wpIn (fz none) nn P QQ a w := by
 refine wpIn_rangeFunc ?_
 intro fn hfn
 obtain ⟨rec, hrec⟩ : ∃ rec : Loop, rec = { state := .ready, pending := none, fn := fn, tmps := a.tmps, params := ps0, assign := ca, body := cb, defers := w.heap.size } := ⟨_, rfl⟩
 obtain ⟨W1, hW1⟩ : ∃ W1, (w.alloc (.deferred (some []))).alloc (.loop rec) = W1 := ⟨_, rfl⟩
 have hL1 : W1.heap[w.heap.size + 1]? = some (.loop rec) := by
  rw [← hW1]; have := World.alloc_heap_new (w.alloc (.deferred (some []))) (.loop rec); rwa [World.size_alloc] at this
 have hK1 : W1.heap[w.heap.size]? = some (.deferred (some [])) := by
  rw [← hW1]; exact (Below.heap_alloc _ _ _ (by simp)).trans (World.alloc_heap_new w _)
 have hsz : W1.heap.size = w.heap.size + 2 := by rw [← hW1]; simp
 have hold : ∀ b, b < w.heap.size → W1.heap[b]? = w.heap[b]? := fun b hb => by
  rw [← hW1]; exact (Below.heap_alloc _ _ _ (by simp; omega)).trans (Below.heap_alloc _ _ _ hb)
 obtain ⟨k1, k2⟩ := hs.new (w' := W1) (.lp .ready none fn N e ps0.toList ca cb) rfl (some (w.heap.size + 1, 0)) (fun b off h => by simp at h; omega) (by rw [← hW1]; rfl) (by rw [← hW1]; rfl) (by rw [← hW1]; rfl) (by omega) hold
  (fun hmo => ⟨w.heap.size + 1, a.tmps, w.heap.size, upd_same, by rw [hL1, hrec], hf.size, fun s => Rep.mono hmo (hf.env.1 s)⟩)
 have hmo := k2.mono hs
 have hown1 : ∀ b, Ctx.own ⟨upd β H.length 0 (some (w.heap.size + 1, 0)), H ++ [.lp .ready none fn N e ps0.toList ca cb], F⟩ b → b ≠ w.heap.size := by
  rintro b ⟨i, o, off, h1, h2, h3⟩ rfl
  by_cases hi : i < H.length
  ·rw [List.getElem?_append_left hi] at h1
   have h3' : β i o.ver = some (w.heap.size, off) := by
    have h3 : upd β H.length 0 (some (w.heap.size + 1, 0)) i o.ver = some (w.heap.size, off) := h3
    rw [upd_other (fun h => by omega)] at h3; exact h3
   have := hs.own_lt ⟨i, o, off, h1, h2, h3'⟩
   omega
  ·have hil : i = H.length := by
    have := (List.getElem?_eq_some_iff.1 h1).1
    simp at this; omega
   subst hil
   simp at h1
   subst h1
   have h3 : upd β H.length 0 (some (w.heap.size + 1, 0)) H.length 0 = some (w.heap.size, off) := h3
   rw [upd_same] at h3
   simp at h3
 refine ⟨w.heap.size + 1, [{ target := .collected w.heap.size, args := #[] }], W1, { target := .fn (.func g) vs.toArray, args := us.toArray ++ #[.func (.yield (w.heap.size + 1)) #[] #[]] }, W1, g,
  us.toArray ++ #[.func (.yield (w.heap.size + 1)) #[] #[]] ++ vs.toArray, W1, ?_, ?_, ?_, ?_, ?_, ?_⟩
 ·rw [← hW1, hrec]; exact run_enterLoop_outer _ _ _ _ _
 ·simp only [resolve, hv]
  simp [go_sem]
 ·intro f' hf'; trivial
 ·simp only [invoke, callFunc_go hgo]
 ·intro h; simp [fz, Fence.wide] at h
 ·refine (callsIn_wide (n := nn - 1)).2 ?_
  have hargs : RepL ⟨upd β H.length 0 (some (w.heap.size + 1, 0)), H ++ [.lp .ready none fn N e ps0.toList ca cb], F⟩ W1 (first ++ [.yl H.length 0] ++ caps) (us ++ [.func (.yield (w.heap.size + 1)) #[] #[]] ++ vs) := by
   refine RepL.append (RepL.append (RepL.mono hmo hfi) (RepL.cons.2 ⟨_, [], rfl, .inr (.inr ⟨[.func (.yield (w.heap.size + 1)) #[] #[]], ?_, rfl⟩), by rw [RepL]⟩)) (RepL.mono hmo hc)
   rw [RepC]
   exact ⟨has_new _ _ _ _ _ (Nat.le_refl _), _, _, upd_same, rfl⟩
  have hcall := h fn _ _ W1 _ k1 hargs
  rw [show (us ++ [Value.func (.yield (w.heap.size + 1)) #[] #[]] ++ vs).toArray = us.toArray ++ #[.func (.yield (w.heap.size + 1)) #[] #[]] ++ vs.toArray from by simp] at hcall
  refine hcall.mono ?_
  rintro _ w3 ⟨v, x, β', H', F', rfl, hR, hs', hl', hx⟩
  have hmk : Marks D0 B ⟨β', H', F'⟩ w3 ({ target := .collected w.heap.size, args := #[] } :: D) := by
   have h1 : Marks D0 B ⟨upd β H.length 0 (some (w.heap.size + 1, 0)), H ++ [.lp .ready none fn N e ps0.toList ca cb], F⟩ W1 ({ target := .collected w.heap.size, args := #[] } :: D) := by
    obtain ⟨ds, d1, d2, d3⟩ := hm.later k2
    refine ⟨w.heap.size :: ds, by rw [d1]; rfl, List.nodup_cons.2 ⟨fun hin => ?_, d2⟩, fun r hr => ?_⟩
    ·obtain ⟨ds', e1, e2, e3⟩ := hm
     have : ds' = ds := by
      have : ds'.map (fun r => ({ target := .collected r, args := #[] } : Deferred)) = ds.map (fun r => { target := .collected r, args := #[] }) := List.append_cancel_right (e1.symm.trans d1)
      exact (List.map_inj_right (fun a b h => by simpa using h)).1 this
     rw [← this] at hin
     have := (e3 _ hin).2.1
     omega
    ·rcases List.mem_cons.1 hr with rfl | hr
     ·exact ⟨hB, by omega, fun ho => hown1 _ ho rfl, fun hF => absurd (hs.lt _ hF) (by omega), hK1⟩
     ·exact d3 r hr
   exact h1.later hl'
  have fin : ∀ (st : LoopState) (pe : Option Code) (fn' : FuncId) (N' : Nat) (e1 : Env) (ps1 : List Nat) (c1 c2 : Code), st ≠ .busy → H'[H.length]? = some (.lp st pe fn' N' e1 ps1 c1 c2) →
    ∃ w4, (Instr.endLoop (w.heap.size + 1)).run P w3 = .ok pe w4 ∧ Sim ⟨β', H'.set H.length (.lp .exhausted pe fn' N' e1 ps1 c1 c2), F'⟩ w4 ∧ Later ⟨β', H', F'⟩ w3 ⟨β', H'.set H.length (.lp .exhausted pe fn' N' e1 ps1 c1 c2), F'⟩ w4 := by
   intro st pe fn' N' e1 ps1 c1 c2 hst hob
   obtain ⟨b, r, r1, r2, r3, r4, _, _, _, _, _, _, r5, r6⟩ := hs'.loopTurn (st' := .exhausted) (pe' := pe) hob
   have hβ : β' H.length 0 = some (w.heap.size + 1, 0) := ((hl'.has H.length 0 (has_new _ _ _ _ _ (Nat.le_refl _))).2).trans upd_same
   rw [hβ] at r1
   obtain ⟨rfl, _⟩ : w.heap.size + 1 = b ∧ True := by simpa using r1
   subst r4
   exact ⟨_, run_endLoop (P := P) r2 (by rw [r3]; exact hst), r5, r6⟩
  have hfr : ∀ {c : Ctx} {w4 : World}, Later ⟨β, H, F⟩ w c w4 → GlobOk c.F w4 → Fr N ({ target := .collected w.heap.size, args := #[] } :: D) c w4 e { a with defers := { target := .collected w.heap.size, args := #[] } :: a.defers } := fun {c w4} hl hgl =>
   ⟨⟨fun s => Rep.mono (hl.mono hs) (hf.env.1 s), hgl⟩, hf.size, by rw [hf.defers]⟩
  unfold RfPost at hR
  simp only [rangePost]
  split at hR
  ·rename_i hob
   obtain ⟨w4, e1, e2, e3⟩ := fin .ready none _ _ _ _ _ _ (by simp) hob
   exact ⟨none, w4, e1, hk .nor _ _ _ _ _ _ _ hR e2 (hfr ((k2.trans hl').trans e3) e2.glob) (hmk.later e3) ((k2.trans hl').trans e3)⟩
  ·rename_i hob
   obtain ⟨w4, e1, e2, e3⟩ := fin .done (some .ret) _ _ _ _ _ _ (by simp) hob
   exact ⟨some .ret, w4, e1, wpIn_ret (hk .ret _ _ _ _ _ _ _ hR e2 (hfr ((k2.trans hl').trans e3) e2.glob) (hmk.later e3) ((k2.trans hl').trans e3))⟩
  ·rename_i i _ _ _ _ _ _ hob
   obtain ⟨w4, e1, e2, e3⟩ := fin .done (some (.exit _)) _ _ _ _ _ _ (by simp) hob
   exact ⟨some (.exit _), w4, e1, wpIn_exit (hk (.exit _) _ _ _ _ _ _ _ hR e2 (hfr ((k2.trans hl').trans e3) e2.glob) (hmk.later e3) ((k2.trans hl').trans e3))⟩
  ·exact hR.elim

theorem stepR_scopeV {b : Frame} {a : Act} {k : List Item} {cs : List Frame} {w : World} {c : Code} : step P (lone (b.atR a (.code (.scope c) :: k)) cs w) = .next (lone (b.atR a (.code c :: .inScope c :: k)) cs w) :=
 step_lone_go (by simp [stepG, stepG.exec, Frame.atR])
theorem stepR_inScopeV {b : Frame} {a : Act} {k : List Item} {cs : List Frame} {w : World} {c : Code} : step P (lone (b.atR a (.inScope c :: k)) cs w) = .next (lone (b.atR a k) cs w) :=
 step_lone_go (by simp [stepG, stepG.exec, Frame.atR])
/-- A scope through which the run goes without a jump. -/
theorem wpIn_scopeV {F : Fence} {n : Nat} {Q : Exit → Act → World → Prop} {a : Act} {w : World} {c : Code} (h : c.wpIn F n P (Exit.noGoto Q) a w) : (Code.scope c).wpIn F n P Q a w := by
 intro b k cs hro hb hr
 have h0 : (lone (b.atR a (.code (.scope c) :: k)) cs w).fenced P F := fenced_calm hb hr rfl
 obtain ⟨e, a₁, w₁, hq, harr⟩ := h b (.inScope c :: k) cs hro hb hr
 cases e with
 | normal => exact ⟨.normal, a₁, w₁, hq, .head h0 stepR_scopeV (StepsIn.trans harr (.one (fenced_calm hb hr rfl) stepR_inScopeV))⟩
 | exit id' =>
  have hx : exitTo id' (.inScope c :: k) = exitTo id' k := by simp [exitTo]
  exact ⟨.exit id', a₁, w₁, hq, fun k' hk => .head h0 stepR_scopeV (harr.1 k' (by rw [hx]; exact hk)),
   fun hr' hk => let ⟨k₁, h1, h2⟩ := harr.2 hr' (by rw [hx]; exact hk); ⟨k₁, h1, .head h0 stepR_scopeV h2⟩⟩
 | goto l => exact hq.elim
 | ret => exact ⟨_, a₁, w₁, hq, .of_steps (.one h0 stepR_scopeV) harr⟩
 | panic ch => exact ⟨_, a₁, w₁, hq, .of_steps (.one h0 stepR_scopeV) harr⟩
 | outgrown => exact ⟨_, a₁, w₁, hq, .of_steps (.one h0 stepR_scopeV) harr⟩

theorem vwp_sound {N : Nat} {ro : Option Nat} {nn : Nat} : ∀ (vc : VCode) {code : Code}, (ro = none ∨ noRf vc = true) → trC P N code = some (er vc) → ∀ {Q : VEx → Env → List Ob → Prop} {e : Env} {H : List Ob} {β : Nat → Nat → Option (Nat × Nat)} {F : Nat → Prop} {w : World} {a : Act} {QQ : Exit → Act → World → Prop} {B : Nat} {D D0 : List Deferred},
  vwp P vc Q e H → Sim ⟨β, H, F⟩ w → Fr N D ⟨β, H, F⟩ w e a → Marks D0 B ⟨β, H, F⟩ w D → B ≤ w.heap.size →
  (∀ x e' H' β' F' w' a' D', Q x e' H' → Sim ⟨β', H', F'⟩ w' → Fr N D' ⟨β', H', F'⟩ w' e' a' → Marks D0 B ⟨β', H', F'⟩ w' D' → Later ⟨β, H, F⟩ w ⟨β', H', F'⟩ w' → QQ x.ex a' w') → code.wpIn (fz ro) nn P QQ a w := by
 intro vc
 have inv : ∀ {code : Code} {v : VCode}, trC P N code = some v → True := fun _ => trivial
 induction vc with
 | ops l kp =>
  intro code hrf ht Q e H β F w a QQ B D D0 h hs hf hm hB hk
  rw [er] at ht
  cases code with
  | region id ops d =>
   cases d with
   | true => exact (trC_t_no ht (by simp) (by simp) (by simp)).elim
   | false =>
    obtain ⟨l', hl, e9⟩ := (trC_f ht).resolve_right (by simp)
    simp only [VCode.ops.injEq, and_true] at e9
    subst e9
    rw [vwp] at h
    exact wpIn_region_list (vops_sound hl h hs hf fun e' H' β' F' w' a' k1 k2 k3 k4 => hk .nor _ _ _ _ _ _ _ k1 k2 (k3.forget kp) (hm.later k4) k4)
  | seq x y => simp only [trC] at ht; split at ht <;> simp at ht
  | cond c x y => simp only [trC] at ht; split at ht <;> simp at ht
  | rangeFunc f ps x y => simp only [trC] at ht; split at ht <;> (try split at ht) <;> simp at ht
  | _ => simp [trC] at ht
 | pops l kp =>
  intro code hrf ht Q e H β F w a QQ B D D0 h hs hf hm hB hk
  rw [er] at ht
  cases code with
  | region id ops d =>
   cases d with
   | true => exact (trC_t_no ht (by simp) (by simp) (by simp)).elim
   | false =>
    obtain ⟨l', hl, e9⟩ := (trC_f ht).resolve_right (by simp)
    simp only [VCode.ops.injEq, and_true] at e9
    subst e9
    rw [vwp] at h
    exact wpIn_region_list (pvops_sound hl h hs hf (fun e' H' β' F' w' a' k1 k2 k3 k4 => hk .nor _ _ _ _ _ _ _ k1 k2 (k3.forget kp) (hm.later k4) k4) fun u H' β' F' w' a' k1 k2 k3 k4 => hk (.pan u) _ _ _ _ _ _ _ k1 k2 k3 (hm.later k4) k4)
  | seq x y => simp only [trC] at ht; split at ht <;> simp at ht
  | cond c x y => simp only [trC] at ht; split at ht <;> simp at ht
  | rangeFunc f ps x y => simp only [trC] at ht; split at ht <;> (try split at ht) <;> simp at ht
  | _ => simp [trC] at ht
 | draw n l kp =>
  intro code hrf ht Q e H β F w a QQ B D D0 h hs hf hm hB hk
  rw [er] at ht
  cases code with
  | region id ops d =>
   cases d with
   | false => exact (trC_f_no ht (by simp) (by simp)).elim
   | true =>
    obtain ⟨n', l', e9, hmo, hh⟩ := (trDraw_spec ((trC_t ht).resolve_right (by simp))).resolve_right (by simp)
    simp only [VCode.draw.injEq, and_true] at e9
    obtain ⟨rfl, rfl⟩ := e9
    rw [vwp] at h
    rcases hh with ⟨hl, hck⟩ | ⟨π, hp, hl, hck⟩
    ·exact draw_sound WOk.vop hmo hl hck h hs hf ⟨fun e' H' β' F' w' a' k1 k2 k3 k4 => hk .nor _ _ _ _ _ _ _ k1 k2 (k3.forget kp) (hm.later k4) k4, fun _ _ _ _ _ _ (h : False) => h.elim⟩
    ·exact draw_soundP WOk.vop hmo hp hl hck h hs hf ⟨fun e' H' β' F' w' a' k1 k2 k3 k4 => hk .nor _ _ _ _ _ _ _ k1 k2 (k3.forget kp) (hm.later k4) k4, fun _ _ _ _ _ _ (h : False) => h.elim⟩
  | seq x y => simp only [trC] at ht; split at ht <;> simp at ht
  | cond c x y => simp only [trC] at ht; split at ht <;> simp at ht
  | rangeFunc f ps x y => simp only [trC] at ht; split at ht <;> (try split at ht) <;> simp at ht
  | _ => simp [trC] at ht
 | pdraw n l kp =>
  intro code hrf ht Q e H β F w a QQ B D D0 h hs hf hm hB hk
  rw [er] at ht
  cases code with
  | region id ops d =>
   cases d with
   | false => exact (trC_f_no ht (by simp) (by simp)).elim
   | true =>
    obtain ⟨n', l', e9, hmo, hh⟩ := (trDraw_spec ((trC_t ht).resolve_right (by simp))).resolve_right (by simp)
    simp only [VCode.draw.injEq, and_true] at e9
    obtain ⟨rfl, rfl⟩ := e9
    rw [vwp] at h
    rcases hh with ⟨hl, hck⟩ | ⟨π, hp, hl, hck⟩
    ·exact draw_sound WOk.pvop hmo hl hck h hs hf ⟨fun e' H' β' F' w' a' k1 k2 k3 k4 => hk .nor _ _ _ _ _ _ _ k1 k2 (k3.forget kp) (hm.later k4) k4, fun u H' β' F' w' a' k1 k2 k3 k4 => hk (.pan u) _ _ _ _ _ _ _ k1 k2 k3 (hm.later k4) k4⟩
    ·exact draw_soundP WOk.pvop hmo hp hl hck h hs hf ⟨fun e' H' β' F' w' a' k1 k2 k3 k4 => hk .nor _ _ _ _ _ _ _ k1 k2 (k3.forget kp) (hm.later k4) k4, fun u H' β' F' w' a' k1 k2 k3 k4 => hk (.pan u) _ _ _ _ _ _ _ k1 k2 k3 (hm.later k4) k4⟩
  | seq x y => simp only [trC] at ht; split at ht <;> simp at ht
  | cond c x y => simp only [trC] at ht; split at ht <;> simp at ht
  | rangeFunc f ps x y => simp only [trC] at ht; split at ht <;> (try split at ht) <;> simp at ht
  | _ => simp [trC] at ht
 | sdraw n l kp =>
  intro code hrf ht Q e H β F w a QQ B D D0 h hs hf hm hB hk
  rw [er] at ht
  cases code with
  | region id ops d =>
   cases d with
   | false => exact (trC_f_no ht (by simp) (by simp)).elim
   | true =>
    obtain ⟨n', l', e9, hmo, π, hp, hl, hck⟩ := (trDraw_spec ((trC_t ht).resolve_right (by simp))).resolve_left (by simp)
    simp only [VCode.sdraw.injEq, and_true] at e9
    obtain ⟨rfl, rfl⟩ := e9
    rw [vwp] at h
    exact draw_soundP WOk.pvopS hmo hp hl hck h hs hf ⟨fun e' H' β' F' w' a' k1 k2 k3 k4 => hk .nor _ _ _ _ _ _ _ k1 k2 (k3.forget kp) (hm.later k4) k4, fun u H' β' F' w' a' k1 k2 k3 k4 => hk (.pan u) _ _ _ _ _ _ _ k1 k2 k3 (hm.later k4) k4⟩
  | seq x y => simp only [trC] at ht; split at ht <;> simp at ht
  | cond c x y => simp only [trC] at ht; split at ht <;> simp at ht
  | rangeFunc f ps x y => simp only [trC] at ht; split at ht <;> (try split at ht) <;> simp at ht
  | _ => simp [trC] at ht
 | skip =>
  intro code hrf ht Q e H β F w a QQ B D D0 h hs hf hm hB hk
  rw [er] at ht
  cases code with
  | skip => exact wpIn_skip (hk .nor _ _ _ _ _ _ _ h hs hf hm (Later.refl _ _))
  | label l => exact wpIn_label (hk .nor _ _ _ _ _ _ _ h hs hf hm (Later.refl _ _))
  | region id ops d =>
   cases d
   ·exact (trC_f_no ht (by simp) (by simp)).elim
   ·exact (trC_t_no ht (by simp) (by simp) (by simp)).elim
  | seq x y => simp only [trC] at ht; split at ht <;> simp at ht
  | cond c x y => simp only [trC] at ht; split at ht <;> simp at ht
  | rangeFunc f ps x y => simp only [trC] at ht; split at ht <;> (try split at ht) <;> simp at ht
  | _ => simp [trC] at ht
 | seq x y ihx ihy =>
  intro code hrf ht Q e H β F w a QQ B D D0 h hs hf hm hB hk
  rw [er] at ht
  cases code with
  | region id ops d =>
   cases d
   ·exact (trC_f_no ht (by simp) (by simp)).elim
   ·exact (trC_t_no ht (by simp) (by simp) (by simp)).elim
  | seq cx cy =>
   simp only [trC] at ht
   split at ht
   ·rename_i vx vy hx hy
    simp only [Option.some.injEq, VCode.seq.injEq] at ht
    obtain ⟨rfl, rfl⟩ := ht
    rw [vwp] at h
    have hrx : ro = none ∨ noRf x = true := hrf.imp id fun h => by simp only [noRf, Bool.and_eq_true] at h; exact h.1
    have hry : ro = none ∨ noRf y = true := hrf.imp id fun h => by simp only [noRf, Bool.and_eq_true] at h; exact h.2
    refine wpIn_seq (ihx hrx hx h hs hf hm hB ?_)
    intro x e' H' β' F' w' a' D' k1 k2 k3 km k4
    cases x with
    | nor => exact ihy hry hy k1 k2 k3 km (Nat.le_trans hB k4.size) fun x e2 H2 β2 F2 w2 a2 D2 m1 m2 m3 mm m4 => hk _ _ _ _ _ _ _ _ m1 m2 m3 mm (k4.trans m4)
    | exit i => exact hk (.exit i) _ _ _ _ _ _ _ k1 k2 k3 km k4
    | ret => exact hk .ret _ _ _ _ _ _ _ k1 k2 k3 km k4
    | pan u => exact hk (.pan u) _ _ _ _ _ _ _ k1 k2 k3 km k4
   ·simp at ht
  | cond c x y => simp only [trC] at ht; split at ht <;> simp at ht
  | rangeFunc f ps x y => simp only [trC] at ht; split at ht <;> (try split at ht) <;> simp at ht
  | _ => simp [trC] at ht
 | cond c x y ihx ihy =>
  intro code hrf ht Q e H β F w a QQ B D D0 h hs hf hm hB hk
  rw [er] at ht
  cases code with
  | region id ops d =>
   cases d
   ·exact (trC_f_no ht (by simp) (by simp)).elim
   ·exact (trC_t_no ht (by simp) (by simp) (by simp)).elim
  | seq x y => simp only [trC] at ht; split at ht <;> simp at ht
  | cond cc cx cy =>
   simp only [trC] at ht
   split at ht
   ·rename_i vx vy hx hy
    simp only [Option.some.injEq, VCode.cond.injEq] at ht
    obtain ⟨rfl, rfl, rfl⟩ := ht
    rw [vwp] at h
    split at h
    ·rename_i t hc
     have hrx : ro = none ∨ noRf x = true := hrf.imp id fun h => by simp only [noRf, Bool.and_eq_true] at h; exact h.1
     have hry : ro = none ∨ noRf y = true := hrf.imp id fun h => by simp only [noRf, Bool.and_eq_true] at h; exact h.2
     refine wpIn_cond_split (hf.env.val hc) (fun htt => ?_) (fun htf => ?_)
     ·rw [if_pos htt] at h; exact ihx hrx hx h hs hf hm hB hk
     ·rw [if_neg (by rw [htf]; simp)] at h; exact ihy hry hy h hs hf hm hB hk
    ·exact h.elim
   ·simp at ht
  | rangeFunc f ps x y => simp only [trC] at ht; split at ht <;> (try split at ht) <;> simp at ht
  | _ => simp [trC] at ht
 | block id x ih =>
  intro code hrf ht Q e H β F w a QQ B D D0 h hs hf hm hB hk
  rw [er] at ht
  cases code with
  | region id ops d =>
   cases d
   ·exact (trC_f_no ht (by simp) (by simp)).elim
   ·exact (trC_t_no ht (by simp) (by simp) (by simp)).elim
  | seq x y => simp only [trC] at ht; split at ht <;> simp at ht
  | cond c x y => simp only [trC] at ht; split at ht <;> simp at ht
  | rangeFunc f ps x y => simp only [trC] at ht; split at ht <;> (try split at ht) <;> simp at ht
  | block id' c =>
   simp only [trC, Option.map_eq_some_iff, VCode.block.injEq] at ht
   obtain ⟨vx, hx, rfl, rfl⟩ := ht
   rw [vwp] at h
   refine wpIn_block (ih hrf hx h hs hf hm hB ?_)
   intro x e' H' β' F' w' a' D' k1 k2 k3 km k4
   cases x with
   | nor => exact hk .nor _ _ _ _ _ _ _ k1 k2 k3 km k4
   | exit i =>
    show Exit.inBlock _ QQ (.exit i) a' w'
    simp only [Exit.inBlock]
    simp only at k1
    split at k1
    ·rename_i hi; rw [if_pos hi]; exact hk .nor _ _ _ _ _ _ _ k1 k2 k3 km k4
    ·rename_i hi; rw [if_neg hi]; exact hk (.exit i) _ _ _ _ _ _ _ k1 k2 k3 km k4
   | ret => exact hk .ret _ _ _ _ _ _ _ k1 k2 k3 km k4
   | pan u => exact hk (.pan u) _ _ _ _ _ _ _ k1 k2 k3 km k4
  | _ => simp [trC] at ht
 | loop lv x ih =>
  intro code hrf ht Q e H β F w a QQ B D D0 h hs hf hm hB hk
  rw [er] at ht
  cases code with
  | region id ops d =>
   cases d
   ·exact (trC_f_no ht (by simp) (by simp)).elim
   ·exact (trC_t_no ht (by simp) (by simp) (by simp)).elim
  | seq x y => simp only [trC] at ht; split at ht <;> simp at ht
  | cond c x y => simp only [trC] at ht; split at ht <;> simp at ht
  | rangeFunc f ps x y => simp only [trC] at ht; split at ht <;> (try split at ht) <;> simp at ht
  | loop c =>
   simp only [trC, Option.map_eq_some_iff, VCode.loop.injEq] at ht
   obtain ⟨vx, hx, _, rfl⟩ := ht
   rw [vwp] at h
   obtain ⟨I, n, h0, hstep⟩ := h
   refine wpIn_loop_ghost (fun n a' w' => ∃ e' H' β' F' D', I n e' H' ∧ Sim ⟨β', H', F'⟩ w' ∧ Fr N D' ⟨β', H', F'⟩ w' e' a' ∧ Marks D0 B ⟨β', H', F'⟩ w' D' ∧ Later ⟨β, H, F⟩ w ⟨β', H', F'⟩ w') n ⟨_, _, _, _, _, h0, hs, hf.forget lv, hm, Later.refl _ _⟩ ?_
   rintro n a' w' ⟨e', H', β', F', D', k1, k2, k3, km, k4⟩
   refine ih hrf hx (hstep n e' H' k1) k2 k3 km (Nat.le_trans hB k4.size) ?_
   intro x e2 H2 β2 F2 w2 a2 D2 m1 m2 m3 mm m4
   cases x with
   | nor =>
    obtain ⟨m, g, hmn, ⟨hg, hb⟩, hI⟩ := m1
    have hf3 := m3.forget lv
    rcases hb with hle | ⟨hbe, hbh⟩
    ·rw [List.take_of_length_le hle] at hI
     exact ⟨m, hmn, _, _, _, _, _, hI, m2, hf3, mm, k4.trans m4⟩
    exact ⟨m, hmn, _, _, _, _, _, hI, m2.cut hbh, ⟨⟨fun s => Rep.cut (belowE_get hbe s) (hf3.env.1 s), hf3.env.2⟩, hf3.size, hf3.defers⟩, mm.cut, (k4.trans m4).cut hg⟩
   | exit i => exact hk (.exit i) _ _ _ _ _ _ _ m1 m2 m3 mm (k4.trans m4)
   | ret => exact hk .ret _ _ _ _ _ _ _ m1 m2 m3 mm (k4.trans m4)
   | pan u => exact hk (.pan u) _ _ _ _ _ _ _ m1 m2 m3 mm (k4.trans m4)
  | _ => simp [trC] at ht
 | exit id =>
  intro code hrf ht Q e H β F w a QQ B D D0 h hs hf hm hB hk
  rw [er] at ht
  cases code with
  | region id ops d =>
   cases d
   ·exact (trC_f_no ht (by simp) (by simp)).elim
   ·exact (trC_t_no ht (by simp) (by simp) (by simp)).elim
  | seq x y => simp only [trC] at ht; split at ht <;> simp at ht
  | cond c x y => simp only [trC] at ht; split at ht <;> simp at ht
  | rangeFunc f ps x y => simp only [trC] at ht; split at ht <;> (try split at ht) <;> simp at ht
  | exit id' =>
   simp only [trC, Option.some.injEq, VCode.exit.injEq] at ht; subst ht
   exact wpIn_exit (hk (.exit _) _ _ _ _ _ _ _ h hs hf hm (Later.refl _ _))
  | _ => simp [trC] at ht
 | ret =>
  intro code hrf ht Q e H β F w a QQ B D D0 h hs hf hm hB hk
  rw [er] at ht
  cases code with
  | region id ops d =>
   cases d
   ·exact (trC_f_no ht (by simp) (by simp)).elim
   ·exact (trC_t_no ht (by simp) (by simp) (by simp)).elim
  | seq x y => simp only [trC] at ht; split at ht <;> simp at ht
  | cond c x y => simp only [trC] at ht; split at ht <;> simp at ht
  | rangeFunc f ps x y => simp only [trC] at ht; split at ht <;> (try split at ht) <;> simp at ht
  | ret => exact wpIn_ret (hk .ret _ _ _ _ _ _ _ h hs hf hm (Later.refl _ _))
  | _ => simp [trC] at ht
 | dead =>
  intro code hrf ht Q e H β F w a QQ B D D0 h
  rw [vwp] at h; exact h.elim
 | scope x ih =>
  intro code hrf ht Q e H β F w a QQ B D D0 h hs hf hm hB hk
  rw [er] at ht
  cases code with
  | region id ops d =>
   cases d
   ·exact (trC_f_no ht (by simp) (by simp)).elim
   ·exact (trC_t_no ht (by simp) (by simp) (by simp)).elim
  | seq x y => simp only [trC] at ht; split at ht <;> simp at ht
  | cond c x y => simp only [trC] at ht; split at ht <;> simp at ht
  | rangeFunc f ps x y => simp only [trC] at ht; split at ht <;> (try split at ht) <;> simp at ht
  | scope c =>
   simp only [trC, Option.map_eq_some_iff, VCode.scope.injEq] at ht
   obtain ⟨vx, hx, rfl⟩ := ht
   rw [vwp] at h
   refine wpIn_scopeV (ih hrf hx h hs hf hm hB ?_)
   intro x e' H' β' F' w' a' D' k1 k2 k3 km k4
   cases x with
   | nor => exact hk .nor _ _ _ _ _ _ _ k1 k2 k3 km k4
   | exit i => exact hk (.exit i) _ _ _ _ _ _ _ k1 k2 k3 km k4
   | ret => exact hk .ret _ _ _ _ _ _ _ k1 k2 k3 km k4
   | pan u => exact hk (.pan u) _ _ _ _ _ _ _ k1 k2 k3 km k4
  | _ => simp [trC] at ht
 | own s k x ih =>
  intro code hrf ht Q e H β F w a QQ B D D0 h hs hf hm hB hk
  rw [er] at ht
  rw [vwp] at h
  split at h
  ·rename_i hg
   obtain ⟨k1, k2, k3⟩ := hs.own k
   have hv : a.tmps.getD s undef = .slice none 0 0 := by
    have := hf.env.1 s; rw [hg, Rep.val] at this; exact this
   refine ih hrf ht h k1 ⟨⟨fun s' => ?_, k1.glob⟩, hf.size, hf.defers⟩ (hm.later k2) hB fun x' e' H' β' F' w' a' D' m1 m2 m3 mm m4 => hk x' e' H' β' F' w' a' D' m1 m2 m3 mm (k2.trans m4)
   rw [get_cons]
   by_cases hss : s = s'
   ·subst hss; rw [if_pos rfl, hv]; exact Rep.of1 k3 (by simp) (by simp)
   ·rw [if_neg hss]; exact Rep.mono (k2.mono hs) (hf.env.1 s')
  ·exact ih hrf ht h hs hf hm hB hk
 | ownB s p k x ih =>
  intro code hrf ht Q e H β F w a QQ B D D0 h hs hf hm hB hk
  rw [er] at ht
  rw [vwp] at h
  split at h
  ·rename_i id ver p0 hg
   split at h
   ·rename_i v y hid
    obtain ⟨rfl, h⟩ := h
    split at h
    ·rename_i hgp
     split at h
     ·rename_i x' hsp
      obtain ⟨k1, k2, k3⟩ := hs.own k
      have hlt : id < H.length := (List.getElem?_eq_some_iff.1 hid).1
      have hid' : (H ++ [Ob.obj 0 (.arr 0 k [])])[id]? = some (.obj v y) := by rw [List.getElem?_append_left hlt]; exact hid
      obtain ⟨q1, q2⟩ := k1.turn (o' := .obj v x') (w' := w) (β' := upd β H.length 0 none) hid' rfl rfl (Nat.le_refl _) (fun _ _ _ => rfl) (fun b off e => .inl ⟨off, e⟩) rfl rfl rfl (Nat.le_refl _) (fun _ _ => rfl) (fun _ _ _ => rfl) (fun hm => by
       rcases k1.ob id _ hid' with ⟨r0, r1⟩ | ⟨b, off, pre, vs, post, t, fr, r0, r1, r2, r3, r4⟩
       ·refine .inl ⟨r0, ?_⟩
        exact RepC.mono hm (setP_same r1 hgp (fun m hm' => by rw [RepC] at hm'; rw [hm'.1]; exact k3) hsp)
       ·refine .inr ⟨b, off, pre, vs, post, t, fr, r0, r1, r2, r3, ?_⟩
        exact RepC.mono hm (setP_same r4 hgp (fun m hm' => by rw [RepC] at hm'; rw [hm'.1]; exact k3) hsp))
      rw [List.set_append_left _ _ hlt] at q1 q2
      exact ih hrf ht h q1 ⟨⟨fun s' => Rep.mono (q2.mono k1) (Rep.mono (k2.mono hs) (hf.env.1 s')), q1.glob⟩, hf.size, hf.defers⟩ (hm.later (k2.trans q2)) hB fun x' e' H' β' F' w' a' D' m1 m2 m3 mm m4 => hk x' e' H' β' F' w' a' D' m1 m2 m3 mm ((k2.trans q2).trans m4)
     ·exact h.elim
    ·exact ih hrf ht h hs hf hm hB hk
   ·exact h.elim
  ·exact h.elim
 | frz s x ih =>
  intro code hrf ht Q e H β F w a QQ B D D0 h hs hf hm hB hk
  rw [er] at ht
  rw [vwp] at h
  split at h
  ·rename_i k id ver p off n cp hg
   split at h
   ·rename_i v y hid
    obtain ⟨rfl, h⟩ := h
    split at h
    ·rename_i cs hcs
     obtain ⟨k1, k2⟩ := hs.freeze hid rfl
     have hr : Rep ⟨β, H, F⟩ w (get e s) (a.tmps.getD s undef) := hf.env.1 s
     rw [hg] at hr
     have hr' : Rep ⟨β, H.set id (.gone v), fun b => F b ∨ ∃ off, β id v = some (b, off)⟩ w (.sl k cs) (a.tmps.getD s undef) := by
      rcases hr with (hr | hr | ⟨us, hr, hr2⟩) | ⟨xs, vs, hr, _⟩
      ·cases hr
      ·cases hr
      ·exact .inl (.inr (.inr ⟨us, hs.give hid hcs hr, by rw [hr2]; rfl⟩))
      ·cases hr
     refine ih hrf ht h k1 ⟨⟨fun s' => ?_, k1.glob⟩, hf.size, hf.defers⟩ (hm.later k2) hB fun x' e' H' β' F' w' a' D' m1 m2 m3 mm m4 => hk x' e' H' β' F' w' a' D' m1 m2 m3 mm (k2.trans m4)
     rw [get_cons]
     by_cases hss : s = s'
     ·subst hss; rw [if_pos rfl]; exact hr'
     ·rw [if_neg hss]; exact Rep.mono (k2.mono hs) (hf.env.1 s')
    ·exact h.elim
   ·exact h.elim
  ·exact h.elim
 | ownT s p t x ih =>
  intro code hrf ht Q e H β F w a QQ B D D0 h hs hf hm hB hk
  rw [er] at ht
  rw [vwp] at h
  split at h
  ·rename_i id ver p0 hg
   split at h
   ·rename_i v y hid
    obtain ⟨rfl, h⟩ := h
    split at h
    ·rename_i hgp
     split at h
     ·rename_i x' hsp
      obtain ⟨k1, k2, k3⟩ := hs.ownBld t
      have hlt : id < H.length := (List.getElem?_eq_some_iff.1 hid).1
      have hid' : (H ++ [Ob.bld 0 t []])[id]? = some (.obj v y) := by rw [List.getElem?_append_left hlt]; exact hid
      obtain ⟨q1, q2⟩ := k1.turn (o' := .obj v x') (w' := w) (β' := upd β H.length 0 none) hid' rfl rfl (Nat.le_refl _) (fun _ _ _ => rfl) (fun b off e => .inl ⟨off, e⟩) rfl rfl rfl (Nat.le_refl _) (fun _ _ => rfl) (fun _ _ _ => rfl) (fun hm => by
       rcases k1.ob id _ hid' with ⟨r0, r1⟩ | ⟨b, off, pre, vs, post, t, fr, r0, r1, r2, r3, r4⟩
       ·refine .inl ⟨r0, ?_⟩
        exact RepC.mono hm (setP_same r1 hgp (fun m hm' => by rw [RepC] at hm'; rw [hm'.1]; exact k3) hsp)
       ·refine .inr ⟨b, off, pre, vs, post, t, fr, r0, r1, r2, r3, ?_⟩
        exact RepC.mono hm (setP_same r4 hgp (fun m hm' => by rw [RepC] at hm'; rw [hm'.1]; exact k3) hsp))
      rw [List.set_append_left _ _ hlt] at q1 q2
      exact ih hrf ht h q1 ⟨⟨fun s' => Rep.mono (q2.mono k1) (Rep.mono (k2.mono hs) (hf.env.1 s')), q1.glob⟩, hf.size, hf.defers⟩ (hm.later (k2.trans q2)) hB fun x' e' H' β' F' w' a' D' m1 m2 m3 mm m4 => hk x' e' H' β' F' w' a' D' m1 m2 m3 mm ((k2.trans q2).trans m4)
     ·exact h.elim
    ·exact ih hrf ht h hs hf hm hB hk
   ·exact h.elim
  ·exact h.elim
 | rfunc g0 ps as bd iha ihb =>
  intro code hrf ht Q e H β F w a QQ B D D0 h hs hf hm hB hk
  obtain rfl : ro = none := hrf.resolve_right (by simp [noRf])
  rw [er] at ht
  cases code with
  | region id ops d =>
   cases d
   ·exact (trC_f_no ht (by simp) (by simp)).elim
   ·exact (trC_t_no ht (by simp) (by simp) (by simp)).elim
  | seq x y => simp only [trC] at ht; split at ht <;> simp at ht
  | cond c x y => simp only [trC] at ht; split at ht <;> simp at ht
  | rangeFunc f0 ps0 ca cb =>
   simp only [trC] at ht
   split at ht
   ·rename_i hps
    split at ht
    ·rename_i va vb hca hcb
     simp only [Option.some.injEq, VCode.rfunc.injEq] at ht
     obtain ⟨rfl, rfl, rfl, rfl⟩ := ht
     rw [vwp] at h
     obtain ⟨-, -, h⟩ := h
     split at h
     ·rename_i g first caps hg
      obtain ⟨hgo, h⟩ := h
      have hr : Rep ⟨β, H, F⟩ w (.fn (.func g) first caps) (a.eval f0) := hf.env.rep (x := f0) hg
      have h1 := hr.inv1 (by simp) (by simp) (by simp) (by simp) (by simp)
      rw [RepC] at h1
      obtain ⟨us, vs, hv1, hfi, hc⟩ := h1
      have hv' : a.eval f0 = .func (.func g) us.toArray vs.toArray := by simpa using hv1
      refine rfunc_sound hs hf hm hB hv' hgo hfi hc (fun fn => h N fn ca cb ⟨hca, hcb, hps⟩) hk
     ·rename_i g xs ys hg
      obtain ⟨hxy, hgo, h⟩ := h
      rw [Bool.and_eq_true, Array.isEmpty_iff, Array.isEmpty_iff] at hxy
      obtain ⟨rfl, rfl⟩ := hxy
      have hv' : a.eval f0 = .func (.func g) #[] #[] := hf.env.val hg
      refine rfunc_sound (us := []) (vs := []) (first := []) (caps := []) hs hf hm hB hv' hgo (by rw [RepL]) (by rw [RepL]) (fun fn => by simpa using h N fn ca cb ⟨hca, hcb, hps⟩) hk
     ·exact h.elim
    ·cases ht
   ·cases ht
  | _ => simp [trC] at ht
end sound
end Go.Proofs.YtfgljddikcghhaaDoor

namespace Go.Proofs.YtfgljddikcghhaaDoor
open Go.RowKit
variable [Globs]
set_option linter.unusedSectionVars false
set_option linter.unusedSimpArgs false
set_option linter.unusedVariables false
set_option autoImplicit false

inductive VR where
 | tmp (t : Nat)
 | cell (a : Nat) (ag : Bool) (sz : Nat)
 deriving Inhabited
def trR (P : Program) : List ResultVar → Option (List VR)
 | [] => some []
 | .tmp t :: r => (trR P r).map (.tmp t :: ·)
 | .cell a t :: r => match aggB P t, szOf P t, trR P r with
  | some ag, some sz, some r => some (.cell a ag sz :: r)
  | _, _, _ => none

def resL : List VR → Env → List Ob → (List TV → Prop) → Prop
 | [], e, H, K => K []
 | .tmp t :: r, e, H, K => resL r e H fun xs => K (get e t :: xs)
 | .cell a ag sz :: r, e, H, K => pop (.load ag sz (.t a)) e H fun x => resL r e H fun xs => K (x :: xs)
def res (r : List VR) (e : Env) (H : List Ob) (K : TV → Prop) : Prop := resL r e H fun xs => match xs with
 | [x] => K x
 | xs => (∀ x ∈ xs, isTup x = false) ∧ K (.tup xs)

section
variable {P : Program}
/-- A result that is read. -/
def rv (a : Act) (r : ResultVar) : Sem Value := match r with
 | .tmp t => pure (a.tmps.getD t undef)
 | .cell x t => do loadVar t (← asAddr (a.tmps.getD x undef))

theorem resL_run {c : Ctx} {w : World} {e : Env} {a : Act} (hs : Sim c w) (he : EnvOk c w e a) : ∀ {rs : List ResultVar} {vr : List VR} {K : List TV → Prop}, trR P rs = some vr → resL vr e c.H K →
  ∃ (xs : List TV) (vs : List Value), (rs.mapM (rv a)).run P w = .ok vs w ∧ xs.length = vs.length ∧ (∀ (i : Nat) x v, xs[i]? = some x → vs[i]? = some v → Rep c w x v) ∧ K xs
 | [], vr, K, ht, h => by
  simp only [trR, Option.some.injEq] at ht; subst ht
  exact ⟨[], [], rfl, rfl, by simp, h⟩
 | .tmp t :: rs, vr, K, ht, h => by
  simp only [trR, Option.map_eq_some_iff] at ht
  obtain ⟨r, hr, rfl⟩ := ht
  rw [resL] at h
  obtain ⟨xs, vs, h1, h2, h3, h4⟩ := resL_run hs he hr h
  refine ⟨get e t :: xs, a.tmps.getD t undef :: vs, by rw [List.mapM_cons]; simp only [rv, Sem.run_bind, Sem.run_pure, Result.andThen_ok, h1], by simp [h2], ?_, h4⟩
  intro i x v hx hv
  cases i with
  | zero => simp at hx hv; subst hx; subst hv; simpa using he.1 t
  | succ i => exact h3 i x v (by simpa using hx) (by simpa using hv)
 | .cell b t :: rs, vr, K, ht, h => by
  simp only [trR] at ht
  split at ht
  ·rename_i ag sz r h1 h2 hr
   cases ht
   rw [resL] at h
   have hy := y_load (P := P) (a := a) (ty := 0) hs he h1 h2 (x := .tmp b) h
   obtain ⟨x, v, hrun, hx, hK⟩ := hy ⟨none, .load t (.tmp b), 0, "", #[], none⟩ rfl rfl
   have hload : (do loadVar t (← asAddr (a.tmps.getD b undef)) : Sem Value).run P w = .ok v w := by
    simp only [execOp, Instr.loadAt, Sem.run_bind, Act.eval] at hrun
    simp only [Sem.run_bind]
    cases hp : a.tmps.getD b undef with
    | pointer p =>
     rw [hp] at hrun
     cases p with
     | none => simp [Instr.sureAddr, stuck] at hrun
     | some ad =>
      simp only [Instr.sureAddr, Sem.run_pure, Result.andThen_ok, asAddr] at hrun ⊢
      cases hl : (loadVar t ad).run P w with
      | ok u w2 => rw [hl] at hrun; simp only [Result.andThen_ok, Sem.run_pure] at hrun; cases hrun; rfl
      | halt hh w2 => rw [hl] at hrun; simp at hrun
    | _ => rw [hp] at hrun; simp [Instr.sureAddr, stuck] at hrun
   obtain ⟨xs, vs, h3, h4, h5, h6⟩ := resL_run hs he hr hK
   refine ⟨x :: xs, v :: vs, by rw [List.mapM_cons, Sem.run_bind]; show Result.andThen ((rv a (.cell b t)).run P w) _ = _; rw [show (rv a (.cell b t)).run P w = .ok v w from hload]; simp only [Result.andThen_ok, Sem.run_bind, h3, Sem.run_pure], by simp [h4], ?_, h6⟩
   intro i y u hy hu
   cases i with
   | zero => simp at hy hu; subst hy; subst hu; exact hx
   | succ i => exact h5 i y u (by simpa using hy) (by simpa using hu)
  ·cases ht

theorem res_run {c : Ctx} {w : World} {e : Env} {a : Act} (hs : Sim c w) (he : EnvOk c w e a) {fn : Func} {vr : List VR} {K : TV → Prop} (ht : trR P fn.results.toList = some vr) (h : res vr e c.H K) :
  ∃ x v, (results fn a.tmps).run P w = .ok v w ∧ Rep c w x v ∧ K x := by
 obtain ⟨xs, vs, h1, h2, h3, h4⟩ := resL_run hs he ht h
 have hrun : (fn.results.mapM (rv a)).run P w = .ok vs.toArray w := by
  rw [Array.mapM_eq_mapM_toList]
  simp only [Sem.run_map, h1, Result.andThen_ok]
 have hres : (results fn a.tmps).run P w = .ok (if h : vs.toArray.size = 1 then vs.toArray[0] else .tuple vs.toArray) w := by
  have : results fn a.tmps = (do let vs ← fn.results.mapM (rv a); pure (if h : vs.size = 1 then vs[0] else .tuple vs)) := rfl
  rw [this, Sem.run_bind, hrun]; rfl
 rcases xs with _ | ⟨x, _ | ⟨y, xs⟩⟩
 ·have hv : vs = [] := List.length_eq_zero_iff.1 (by simpa using h2.symm)
  subst hv
  exact ⟨_, _, hres, .inr ⟨[], [], rfl, rfl, by rw [RepL]⟩, h4.2⟩
 ·obtain ⟨v, rfl⟩ := List.length_eq_one_iff.1 (by simpa using h2.symm)
  exact ⟨_, _, hres, h3 0 x v rfl rfl, h4⟩
 ·rcases vs with _ | ⟨u, _ | ⟨v, vs⟩⟩
  ·simp at h2
  ·simp at h2
  ·refine ⟨_, _, hres, .inr ⟨_, u :: v :: vs, rfl, by simp, ?_⟩, h4.2⟩
   have key : ∀ (xs : List TV) (vs : List Value), xs.length = vs.length → (∀ x ∈ xs, isTup x = false) → (∀ (i : Nat) x v, xs[i]? = some x → vs[i]? = some v → Rep c w x v) → RepL c w xs vs := by
    intro xs
    induction xs with
    | nil => intro vs h _ _; rw [RepL]; exact List.length_eq_zero_iff.1 h.symm
    | cons x xs ih =>
     intro vs hl ht hr
     cases vs with
     | nil => simp at hl
     | cons v vs =>
      refine RepL.cons.2 ⟨v, vs, rfl, ?_, ih vs (by simpa using hl) (fun y hy => ht y (by simp [hy])) fun i y u hy hu => hr (i + 1) y u (by simpa using hy) (by simpa using hu)⟩
      rcases hr 0 x v rfl rfl with h | ⟨ys, us, rfl, _⟩
      ·exact h
      ·have := ht (.tup ys) (by simp); simp [isTup] at this
   exact key _ _ h2 h4.1 h3

def argsE : Nat → List TV → Env
 | _, [] => []
 | i, x :: xs => (i, x) :: argsE (i + 1) xs
theorem get_argsE : ∀ (xs : List TV) (i s : Nat), get (argsE i xs) s = if i ≤ s then (xs[s - i]?).getD .any else .any
 | [], i, s => by simp [argsE, get]
 | x :: xs, i, s => by
  rw [argsE, get_cons, get_argsE xs (i + 1) s]
  by_cases h : i = s
  ·subst h; simp
  ·rw [if_neg h]
   by_cases h2 : i ≤ s
   ·rw [if_pos (by omega), if_pos h2, show s - i = (s - (i + 1)) + 1 from by omega, List.getElem?_cons_succ]
   ·rw [if_neg (by omega), if_neg h2]

theorem RepL.get {c : Ctx} {w : World} : ∀ {xs : List TV} {vs : List Value}, RepL c w xs vs → xs.length = vs.length ∧ ∀ (i : Nat) x, xs[i]? = some x → ∃ v, vs[i]? = some v ∧ Rep c w x v
 | [], vs, h => by rw [RepL] at h; subst h; simp
 | x :: xs, vs, h => by
  obtain ⟨u, us, rfl, h1, h2⟩ := RepL.cons.1 h
  obtain ⟨h3, h4⟩ := RepL.get h2
  refine ⟨by simp [h3], fun i y hy => ?_⟩
  cases i with
  | zero => simp at hy; subst hy; exact ⟨u, rfl, .inl h1⟩
  | succ i => simpa using h4 i y (by simpa using hy)

/-- The end of a body. -/
def atEnd (vr : List VR) (R : TV → List Ob → Prop) : VEx → Env → List Ob → Prop
 | .nor, e, H => res vr e H fun x => R x H
 | .ret, e, H => res vr e H fun x => R x H
 | .exit _, _, _ => False
 | .pan _, _, _ => False

/-- A block that is nobody's turns. -/
theorem Sim.nobody {c : Ctx} {w : World} (hs : Sim c w) {r : Nat} {o o' : Obj} (hr : w.heap[r]? = some o) (h1 : ¬ c.own r) (h2 : ¬ c.F r) (hsh : (w.putObj r o').shape? r = w.shape? r) : Sim c (w.putObj r o') ∧ Mono c w c (w.putObj r o') := by
 have hoth : ∀ b, b ≠ r → (w.putObj r o').heap[b]? = w.heap[b]? := fun b hb => World.putObj_heap_other hb
 have hm : Mono c w c (w.putObj r o') := ⟨fun b hb => ⟨hb, hoth b fun e => h2 (e ▸ hb)⟩, fun _ _ h => ⟨h, rfl⟩, fun b _ => by
  by_cases hb : b = r
  ·subst hb; exact hsh
  ·exact shape_of_block (hoth b hb)⟩
 refine ⟨⟨fun id ob ho => ObIs.mono hm (Ctx.has_of ho) (fun hl b off hb => hoth b fun e => h1 (e ▸ Ctx.own_of ho hl hb)) (hs.ob id ob ho), hs.inj, hs.apart, fun b hb => ?_, hs.glob.keep hm.stay⟩, hm⟩
 rw [(putObj_os w r o').2.2.2]; exact hs.lt b hb
theorem Later.nobody {c0 c : Ctx} {w0 w : World} (h : Later c0 w0 c w) {r : Nat} {o' : Obj} (hr : w0.heap.size ≤ r) : Later c0 w0 c (w.putObj r o') :=
 ⟨h.os, h.tape, h.output, by rw [(putObj_os w r o').2.2.2]; exact h.size, h.has, fun b hb => (shape_of_block (World.putObj_heap_other (by omega))).trans (h.shape b hb), fun b hb ho => (World.putObj_heap_other (by omega)).trans (h.same b hb ho), h.keepF, h.oldF, h.oldOwn⟩
/-- The blocks are shut on the way out. -/
theorem Marks.shut {D0 : List Deferred} {u : FrameMode} (hu : u ≠ .run) {FF : Fence} {n : Nat} {fn : Func} {tmps : Array Value} {R : Ending → World → Prop} {B : Nat} {c : Ctx} : ∀ {D : List Deferred} {w : World}, Marks D0 B c w D → Sim c w →
  ∃ wF, (LeavesInM FF n P fn tmps R D0 u wF → LeavesInM FF n P fn tmps R D u w) ∧ Sim c wF ∧ Mono c w c wF ∧ ∀ (c0 : Ctx) (w0 : World), w0.heap.size ≤ B → Later c0 w0 c w → Later c0 w0 c wF := by
 rintro D w ⟨ds, rfl, hnd, hds⟩ hs
 induction ds generalizing w with
 | nil => exact ⟨w, fun h => h, hs, Mono.heap rfl, fun c0 w0 _ h => h⟩
 | cons r ds ih =>
  obtain ⟨k1, k2, k3, k4, k5⟩ := hds r (by simp)
  rw [List.nodup_cons] at hnd
  have hput := World.putObj_heap_same (w := w) (o := .deferred none) k2
  obtain ⟨s1, s2⟩ := hs.nobody (o' := .deferred none) k5 k3 k4 (by simp [World.shape?, hput, k5])
  obtain ⟨wF, e1, e2, e3, e4⟩ := ih (w := w.putObj r (.deferred none)) hnd.2 (fun q hq => by
   obtain ⟨q1, q2, q3, q4, q5⟩ := hds q (by simp [hq])
   have hne : q ≠ r := fun e => hnd.1 (e ▸ hq)
   exact ⟨q1, by rw [(putObj_os w r _).2.2.2]; exact q2, q3, q4, (World.putObj_heap_other hne).trans q5⟩) s1
  refine ⟨wF, fun h => ⟨hu, .inl ⟨r, _, rfl, run_takeDeferred k5, e1 h⟩⟩, e2, ⟨fun b hb => ⟨hb, ((e3.stay b hb).2).trans (s2.stay b hb).2⟩, fun _ _ h => ⟨h, rfl⟩, fun b hb => (e3.shape b (by rw [(putObj_os w r _).2.2.2]; exact hb)).trans (s2.shape b hb)⟩, fun c0 w0 hB hl => e4 c0 w0 hB (hl.nobody (by omega))⟩

/-- A FUNCTION: out of its body's condition. -/
theorem vcalls_of {f : FuncId} {fn : Func} {vc : VCode} {vr : List VR} {args : List TV} {H : List Ob} {R : TV → List Ob → Prop} (hf : P.funcs[f]? = some fn) (ht : fn.body.bind (trC P fn.ntmps) = some (er vc)) (hr : trR P fn.results.toList = some vr)
  (hn : args.length ≤ fn.ntmps) (h : vwp P vc (atEnd vr R) (argsE 0 args) H) : VCalls P f args H R := by
 obtain ⟨code, hb, ht⟩ := Option.bind_eq_some_iff.1 ht
 intro β F w vs hs hv
 obtain ⟨hl, hget⟩ := RepL.get hv
 refine (callsIn_wide (n := 0)).1 (callsIn_of_wp_marks hf hb trivial ?_)
 refine vwp_sound (ro := none) (nn := 0) (B := w.heap.size) (D := []) (D0 := []) vc (.inl rfl) ht h hs ⟨⟨fun s => ?_, hs.glob⟩, by simp; omega, rfl⟩ Marks.nil (Nat.le_refl _) ?_
 ·rw [get_argsE]
  simp only [Nat.zero_le, if_true, Nat.sub_zero]
  cases hx : args[s]? with
  | none => exact Rep.any
  | some x =>
   obtain ⟨v, hv1, hv2⟩ := hget s x hx
   have hs' : s < vs.length := (List.getElem?_eq_some_iff.1 hv1).1
   have : ((vs.toArray ++ Array.replicate (fn.ntmps - vs.toArray.size) undef).getD s undef) = v := by
    rw [Array.getD_eq_getD_getElem?, Array.getElem?_append_left (by simpa using hs')]
    simp [hv1]
   rw [this]; exact hv2
 ·intro x e' H' β' F' w' a' D' k1 k2 k3 km k4
  have fin : res vr e' H' (fun x => R x H') → LeavesInM Fence.wide 0 P fn a'.tmps (fun e w' => ∃ v x β' H' F', e = .returned v ∧ R x H' ∧ Sim ⟨β', H', F'⟩ w' ∧ Later ⟨β, H, F⟩ w ⟨β', H', F'⟩ w' ∧ Rep ⟨β', H', F'⟩ w' x v) a'.defers .returning w' := fun h => by
   rw [k3.defers]
   obtain ⟨wF, e1, e2, e3, e4⟩ := Marks.shut (D0 := []) (u := .returning) (by simp) (P := P) (FF := Fence.wide) (n := 0) (fn := fn) (tmps := a'.tmps) (R := fun e w' => ∃ v x β' H' F', e = .returned v ∧ R x H' ∧ Sim ⟨β', H', F'⟩ w' ∧ Later ⟨β, H, F⟩ w ⟨β', H', F'⟩ w' ∧ Rep ⟨β', H', F'⟩ w' x v) km k2
   obtain ⟨y, v, r1, r2, r3⟩ := res_run (fn := fn) (a := a') e2 ⟨fun s => Rep.mono e3 (k3.env.1 s), e2.glob⟩ hr h
   exact e1 ⟨v, r1, v, y, β', H', F', rfl, r3, e2, e4 _ _ (Nat.le_refl _) k4, r2⟩
  cases x with
  | nor => exact fin k1
  | ret => exact fin k1
  | exit i => exact k1.elim
  | pan u => exact k1.elim

/-- The end of a body that may panic. -/
def atEndP (vr : List VR) (R : TV → List Ob → Prop) (RP : Value → List Ob → Prop) : VEx → Env → List Ob → Prop
 | .nor, e, H => res vr e H fun x => R x H
 | .ret, e, H => res vr e H fun x => R x H
 | .exit _, _, _ => False
 | .pan u, _, H => RP u H
/-- A FUNCTION that may panic: out of its body's condition. -/
theorem vcallsP_of {f : FuncId} {fn : Func} {vc : VCode} {vr : List VR} {args : List TV} {H : List Ob} {R : TV → List Ob → Prop} {RP : Value → List Ob → Prop} (hf : P.funcs[f]? = some fn) (ht : fn.body.bind (trC P fn.ntmps) = some (er vc)) (hr : trR P fn.results.toList = some vr)
  (hn : args.length ≤ fn.ntmps) (h : vwp P vc (atEndP vr R RP) (argsE 0 args) H) : VCallsP P f args H R RP := by
 obtain ⟨code, hb, ht⟩ := Option.bind_eq_some_iff.1 ht
 intro β F w vs hs hv
 obtain ⟨hl, hget⟩ := RepL.get hv
 refine (callsIn_wide (n := 0)).1 (callsIn_of_wp_marks hf hb trivial ?_)
 refine vwp_sound (ro := none) (nn := 0) (B := w.heap.size) (D := []) (D0 := []) vc (.inl rfl) ht h hs ⟨⟨fun s => ?_, hs.glob⟩, by simp; omega, rfl⟩ Marks.nil (Nat.le_refl _) ?_
 ·rw [get_argsE]
  simp only [Nat.zero_le, if_true, Nat.sub_zero]
  cases hx : args[s]? with
  | none => exact Rep.any
  | some x =>
   obtain ⟨v, hv1, hv2⟩ := hget s x hx
   have hs' : s < vs.length := (List.getElem?_eq_some_iff.1 hv1).1
   have : ((vs.toArray ++ Array.replicate (fn.ntmps - vs.toArray.size) undef).getD s undef) = v := by
    rw [Array.getD_eq_getD_getElem?, Array.getElem?_append_left (by simpa using hs')]
    simp [hv1]
   rw [this]; exact hv2
 ·intro x e' H' β' F' w' a' D' k1 k2 k3 km k4
  have fin : res vr e' H' (fun x => R x H') → LeavesInM Fence.wide 0 P fn a'.tmps (fun e w' => ∃ β' H' F', Sim ⟨β', H', F'⟩ w' ∧ Later ⟨β, H, F⟩ w ⟨β', H', F'⟩ w' ∧ ((∃ v x, e = .returned v ∧ R x H' ∧ Rep ⟨β', H', F'⟩ w' x v) ∨ ∃ u, e = .panicked [{ v := u, recovered := false }] ∧ RP u H')) a'.defers .returning w' := fun h => by
   rw [k3.defers]
   obtain ⟨wF, e1, e2, e3, e4⟩ := Marks.shut (D0 := []) (u := .returning) (by simp) (P := P) (FF := Fence.wide) (n := 0) (fn := fn) (tmps := a'.tmps) (R := fun e w' => ∃ β' H' F', Sim ⟨β', H', F'⟩ w' ∧ Later ⟨β, H, F⟩ w ⟨β', H', F'⟩ w' ∧ ((∃ v x, e = .returned v ∧ R x H' ∧ Rep ⟨β', H', F'⟩ w' x v) ∨ ∃ u, e = .panicked [{ v := u, recovered := false }] ∧ RP u H')) km k2
   obtain ⟨y, v, r1, r2, r3⟩ := res_run (fn := fn) (a := a') e2 ⟨fun s => Rep.mono e3 (k3.env.1 s), e2.glob⟩ hr h
   exact e1 ⟨v, r1, β', H', F', e2, e4 _ _ (Nat.le_refl _) k4, .inl ⟨v, y, rfl, r3, r2⟩⟩
  cases x with
  | nor => exact fin k1
  | ret => exact fin k1
  | exit i => exact k1.elim
  | pan u =>
   show LeavesInM Fence.wide 0 P fn a'.tmps _ a'.defers (.panicking [{ v := u, recovered := false }]) w'
   rw [k3.defers]
   obtain ⟨wF, e1, e2, e3, e4⟩ := Marks.shut (D0 := []) (u := .panicking [{ v := u, recovered := false }]) (by simp) (P := P) (FF := Fence.wide) (n := 0) (fn := fn) (tmps := a'.tmps) (R := fun e w' => ∃ β' H' F', Sim ⟨β', H', F'⟩ w' ∧ Later ⟨β, H, F⟩ w ⟨β', H', F'⟩ w' ∧ ((∃ v x, e = .returned v ∧ R x H' ∧ Rep ⟨β', H', F'⟩ w' x v) ∨ ∃ u, e = .panicked [{ v := u, recovered := false }] ∧ RP u H')) km k2
   exact e1 ⟨β', H', F', e2, e4 _ _ (Nat.le_refl _) k4, .inr ⟨u, rfl, k1⟩⟩



/-- Nothing that was there has turned. -/
structure Stays (F : Nat → Prop) (w : World) (F' : Nat → Prop) (w' : World) : Prop where
 os : w'.os = w.os
 tape : w'.tape = w.tape
 output : w'.output = w.output
 size : w.heap.size ≤ w'.heap.size
 same : ∀ b, b < w.heap.size → w'.heap[b]? = w.heap[b]?
 keepF : ∀ b, F b → F' b
 oldF : ∀ b, b < w.heap.size → F' b → F b
 ltF : ∀ b, F' b → b < w'.heap.size

/-- A CALL THAT LEAVES NOTHING BEHIND but new memory that nobody changes any more. -/
def VPure (P : Program) (f : FuncId) (args : List TV) (R : TV → Prop) : Prop :=
 ∀ (β : Nat → Nat → Option (Nat × Nat)) (F : Nat → Prop) (w : World) (vs : List Value), ((∀ b, F b → b < w.heap.size) ∧ GlobOk F w) → RepL ⟨β, [], F⟩ w args vs →
  Calls P f vs.toArray w fun e w' => ∃ v x F', e = .returned v ∧ R x ∧ Rep ⟨β, [], F'⟩ w' x v ∧ Stays F w F' w'


theorem VCalls.toPure {f : FuncId} {args : List TV} {R : TV → Prop} (h : VCalls P f args [] fun x H' => match frz H' x with | some y => R y | none => False) : VPure P f args R := by
 intro β F w vs hF hv
 have hs : Sim ⟨β, [], F⟩ w := ⟨fun id o ho => by simp at ho, fun i j x y b o o' hx => by simp at hx, fun b hb => by obtain ⟨i, o, off, h1, _⟩ := hb; simp at h1, hF.1, hF.2⟩
 refine (h β F w vs hs hv).mono ?_
 rintro _ w' ⟨v, x, β', H', F', rfl, hR, hs', hl, hx⟩
 split at hR
 ·rename_i y hy
  have hno : ∀ b, ¬ Ctx.own ⟨β, [], F⟩ b := fun b hb => by obtain ⟨i, o, off, h1, _⟩ := hb; simp at h1
  have hr := frz_rep hs' hy hx
  refine ⟨v, y, fun b => F' b ∨ Ctx.own ⟨β', H', F'⟩ b, rfl, hR, Rep.mono (Mono.toBare [] β) hr, ⟨hl.os, hl.tape, hl.output, hl.size, fun b hb => hl.same b hb (hno b), fun b hb => .inl (hl.keepF b hb), fun b hb hF' => ?_, fun b hF' => hF'.elim (hs'.lt b) hs'.own_lt⟩⟩
  rcases hF' with hF' | hF'
  ·exact (hl.oldF b hb hF').resolve_right (hno b)
  ·exact absurd (hl.oldOwn b hb hF') (hno b)
 ·exact hR.elim

theorem Stays.later {β : Nat → Nat → Option (Nat × Nat)} {H : List Ob} {F F' : Nat → Prop} {w w' : World} (h : Stays F w F' w') : Later ⟨β, H, F⟩ w ⟨β, H, F'⟩ w' :=
 ⟨h.os, h.tape, h.output, h.size, fun id v ⟨o, h1, h2⟩ => ⟨⟨o, h1, h2⟩, rfl⟩, fun b hb => shape_of_block (h.same b hb), fun b hb _ => h.same b hb, h.keepF, fun b hb hF => .inl (h.oldF b hb hF), fun b hb ⟨i, o, off, h1, h2, h3⟩ => ⟨i, o, off, h1, h2, h3⟩⟩
theorem Stays.sim {β : Nat → Nat → Option (Nat × Nat)} {H : List Ob} {F F' : Nat → Prop} {w w' : World} (hs : Sim ⟨β, H, F⟩ w) (h : Stays F w F' w') : Sim ⟨β, H, F'⟩ w' := by
 have hm : Mono ⟨β, H, F⟩ w ⟨β, H, F'⟩ w' := ⟨fun b hb => ⟨h.keepF b hb, h.same b (hs.lt b hb)⟩, fun id v ⟨o, h1, h2⟩ => ⟨⟨o, h1, h2⟩, rfl⟩, fun b hb => shape_of_block (h.same b hb)⟩
 refine ⟨fun id o ho => ObIs.mono hm ⟨o, ho, Nat.le_refl _⟩ (fun hl b off hb => h.same b (hs.own_lt ⟨id, o, off, ho, hl, hb⟩)) (hs.ob id o ho), hs.inj, fun b hb hF => ?_, h.ltF, hs.glob.keep hm.stay⟩
 obtain ⟨i, o, off, h1, h2, h3⟩ := hb
 have ho : Ctx.own ⟨β, H, F⟩ b := ⟨i, o, off, h1, h2, h3⟩
 exact hs.apart b ho (h.oldF b (hs.own_lt ho) hF)

/-- Such a call, with nothing lent. -/
theorem VPure.calls {f : FuncId} {args : List TV} {R : TV → Prop} {H : List Ob} {K : TV → List Ob → Prop} (h : VPure P f args R) (hp : pureL args = true) (hk : ∀ x, R x → K x H) : VCalls P f args H K := by
 intro β F w vs hs hv
 refine (h β F w vs ⟨hs.lt, hs.glob⟩ (RepL.pure hp hv)).mono ?_
 rintro _ w' ⟨v, x, F', rfl, hR, hx, hst⟩
 exact ⟨v, x, β, H, F', rfl, hk x hR, hst.sim hs, hst.later, Rep.mono (Mono.toBare H β) hx⟩

/-- Such a call, to which objects are lent: it yields no memory. -/
theorem VPure.lends {f : FuncId} {args args' : List TV} {R : TV → Prop} {H : List Ob} {K : TV → List Ob → Prop} (h : VPure P f args' R) (hp : frzL H args = some args') (hk : ∀ x, R x → scal x = true ∧ K x H) : VCalls P f args H K := by
 intro β F w vs hs hv
 refine (h β (fun b => F b ∨ Ctx.own ⟨β, H, F⟩ b) w vs ⟨fun b hb => hb.elim (hs.lt b) hs.own_lt, hs.glob.keep fun b hb => ⟨.inl hb, rfl⟩⟩ (frzL_rep hs hp hv)).mono ?_
 rintro _ w' ⟨v, x, F', rfl, hR, hx, hst⟩
 obtain ⟨hsc, hK⟩ := hk x hR
 have hst' : Stays F w F w' := ⟨hst.os, hst.tape, hst.output, hst.size, hst.same, fun _ h => h, fun _ _ h => h, fun b hb => Nat.lt_of_lt_of_le (hs.lt b hb) hst.size⟩
 exact ⟨v, x, β, H, F, rfl, hK, hst'.sim hs, hst'.later, scal_rep hsc hx⟩

theorem Mono.ofF {β β' : Nat → Nat → Option (Nat × Nat)} {H : List Ob} {F F' : Nat → Prop} {w : World} (h : ∀ b, F b → F' b) : Mono ⟨β, [], F⟩ w ⟨β', H, F'⟩ w :=
 ⟨fun b hb => ⟨h b hb, rfl⟩, fun id v h => by obtain ⟨o, h, _⟩ := h; simp at h, fun _ _ => rfl⟩
mutual
/-- The reading of a result, where all memory in it is one's own, its elements without memory. -/
def frs (H : List Ob) : TV → Option TV
 | .val v => some (.val v)
 | .any => some .any
 | .os k id ver p off n cp => match H[id]? with
  | some (.obj v x) => if v = ver then (match elemsAt p k off n x with
   | some cs => if scalL cs then some (.sl k cs) else none
   | none => none) else none
  | _ => none
 | .agg cs => (frsL H cs).map .agg
 | .arr n k cs => if scalL cs then some (.arr n k cs) else none
 | .tup cs => (frsL H cs).map .tup
 | .ifc t x => (frs H x).map (.ifc t)
 | _ => none
def frsL (H : List Ob) : List TV → Option (List TV)
 | [] => some []
 | x :: xs => match frs H x, frsL H xs with
  | some x, some xs => some (x :: xs)
  | _, _ => none
end

/-- Only one's own blocks. -/
def Ctx.mine (c : Ctx) : Ctx := ⟨c.β, [], c.own⟩

theorem elemsAt_nilcs {p : List (Nat × Nat)} {k off : Nat} {x : TV} {cs : List TV} (h : elemsAt p k off 0 x = some cs) : cs = [] := by
 unfold elemsAt at h
 split at h
 ·split at h
  ·cases h; simp
  ·cases h
 ·cases h

mutual
theorem frs_rep {c : Ctx} {w : World} (hs : Sim c w) : ∀ {x x' : TV} {us : List Value}, frs c.H x = some x' → RepC c w x us → RepC c.mine w x' us
 | .val y, x', us, hf, hr => by simp only [frs, Option.some.injEq] at hf; subst hf; rw [RepC] at hr ⊢; exact hr
 | .any, x', us, hf, hr => by simp only [frs, Option.some.injEq] at hf; subst hf; rw [RepC] at hr ⊢; exact hr
 | .mp _ _, x', us, hf, hr => by simp [frs] at hf
 | .yl _ _, x', us, hf, hr => by simp [frs] at hf
 | .sl k cs, x', us, hf, hr => by simp [frs] at hf
 | .fp x, x', us, hf, hr => by simp [frs] at hf
 | .op id ver p, x', us, hf, hr => by simp [frs] at hf
 | .fn f a b, x', us, hf, hr => by simp [frs] at hf
 | .os k id ver p off n cp, x', us, hf, hr => by
  rw [RepC] at hr
  obtain ⟨hr1, hr2⟩ := hr
  rw [frs] at hf
  split at hf
  ·rename_i ver' x hid
   split at hf
   ·rename_i e; subst e
    split at hf
    ·rename_i cs hcs
     split at hf
     ·rename_i hsc
      cases hf
      rcases hr2 with ⟨rfl, a0, hr2, _⟩ | ⟨b0, o0, cap, t0, m0, hr2, hr3, hr4, hr5, hr6, hr7⟩
      ·have := elemsAt_nilcs hcs
       subst this
       rw [RepC]
       exact ⟨by simp, .inl ⟨rfl, a0, 0, hr2, by omega⟩⟩
      rcases hs.ob id _ hid with ⟨h0, _⟩ | ⟨b, off', pre, vs, post, t, fr, h0, h1, h2, h3, h4⟩
      ·rw [h0] at hr2; cases hr2
      rw [h0] at hr2
      obtain ⟨rfl, rfl⟩ : b = b0 ∧ off' = o0 := by simpa using hr2
      obtain ⟨a, m, q, rfl, k1, k2, k3, k4⟩ := elemsAt_spec h4 hcs
      rw [RepC]
      refine ⟨k3, .inr ⟨b, off' + span p + off * k, cap, m, by rw [k4]; exact hr3, by omega, hr5, ⟨id, _, off', hid, rfl, h0⟩, scalL_repCs hsc k2, ?_⟩⟩
      have e : off' + span p + off * k = pre.length + a.length := by rw [h3, k1]; omega
      rw [e]; exact cells_mid h1
     ·cases hf
    ·cases hf
   ·cases hf
  ·cases hf
 | .agg cs, x', us, hf, hr => by
  simp only [frs, Option.map_eq_some_iff] at hf
  obtain ⟨ds, hds, rfl⟩ := hf
  rw [RepC] at hr ⊢
  exact frsL_reps hs hds hr
 | .arr n k cs, x', us, hf, hr => by
  rw [frs] at hf
  split at hf
  ·rename_i hsc; cases hf; rw [RepC] at hr ⊢; exact ⟨hr.1, hr.2.1, scalL_repCs hsc hr.2.2⟩
  ·cases hf
 | .tup cs, x', us, hf, hr => by rw [RepC] at hr; exact hr.elim
 | .ifc t x, x', us, hf, hr => by
  simp only [frs, Option.map_eq_some_iff] at hf
  obtain ⟨y, hy, rfl⟩ := hf
  rw [RepC] at hr ⊢
  obtain ⟨u, h1, vs, h2, h3⟩ := hr
  exact ⟨u, h1, vs, frs_rep hs hy h2, by rw [h3]; exact frs_mkV hy vs⟩
theorem frsL_reps {c : Ctx} {w : World} (hs : Sim c w) : ∀ {xs xs' : List TV} {us : List Value}, frsL c.H xs = some xs' → RepCs c w xs us → RepCs c.mine w xs' us
 | [], xs', us, hf, hr => by simp only [frsL, Option.some.injEq] at hf; subst hf; rw [RepCs] at hr ⊢; exact hr
 | x :: xs, xs', us, hf, hr => by
  rw [frsL] at hf
  split at hf
  ·rename_i y ys hy hys
   cases hf
   rw [RepCs] at hr ⊢
   obtain ⟨u, us, h1, h2, h3⟩ := hr
   exact ⟨u, us, h1, frs_rep hs hy h2, frsL_reps hs hys h3⟩
  ·cases hf
theorem frs_mkV {H : List Ob} : ∀ {x x' : TV} (hf : frs H x = some x') (us : List Value), mkV x us = mkV x' us
 | .val y, x', hf, us => by simp only [frs, Option.some.injEq] at hf; subst hf; rfl
 | .any, x', hf, us => by simp only [frs, Option.some.injEq] at hf; subst hf; rfl
 | .mp _ _, x', hf, us => by simp [frs] at hf
 | .yl _ _, x', hf, us => by simp [frs] at hf
 | .sl k cs, x', hf, us => by simp [frs] at hf
 | .fp x, x', hf, us => by simp [frs] at hf
 | .op id ver p, x', hf, us => by simp [frs] at hf
 | .fn f a b, x', hf, us => by simp [frs] at hf
 | .os k id ver p off n cp, x', hf, us => by
  rw [frs] at hf
  split at hf
  ·split at hf
   ·split at hf
    ·split at hf
     ·cases hf; rfl
     ·cases hf
    ·cases hf
   ·cases hf
  ·cases hf
 | .agg cs, x', hf, us => by
  simp only [frs, Option.map_eq_some_iff] at hf
  obtain ⟨ds, hds, rfl⟩ := hf; rfl
 | .arr n k cs, x', hf, us => by
  rw [frs] at hf
  split at hf
  ·cases hf; rfl
  ·cases hf
 | .tup cs, x', hf, us => by
  simp only [frs, Option.map_eq_some_iff] at hf
  obtain ⟨ds, hds, rfl⟩ := hf; rfl
 | .ifc t x, x', hf, us => by
  simp only [frs, Option.map_eq_some_iff] at hf
  obtain ⟨y, hy, rfl⟩ := hf; rfl
end
theorem frsL_rep {c : Ctx} {w : World} (hs : Sim c w) : ∀ {xs xs' : List TV} {vs : List Value}, frsL c.H xs = some xs' → RepL c w xs vs → RepL c.mine w xs' vs
 | [], xs', vs, hf, hr => by simp only [frsL, Option.some.injEq] at hf; subst hf; rw [RepL] at hr ⊢; exact hr
 | x :: xs, xs', vs, hf, hr => by
  rw [frsL] at hf
  split at hf
  ·rename_i y ys hy hys
   cases hf
   rw [RepL] at hr ⊢
   obtain ⟨u, us, h1, h2, h3⟩ := hr
   refine ⟨u, us, h1, ?_, frsL_rep hs hys h3⟩
   rcases h2 with rfl | rfl | ⟨as, h2, h4⟩
   ·simp only [frs, Option.some.injEq] at hy; subst hy; exact .inl rfl
   ·simp only [frs, Option.some.injEq] at hy; subst hy; exact .inr (.inl rfl)
   ·exact .inr (.inr ⟨as, frs_rep hs hy h2, by rw [h4]; exact frs_mkV hy as⟩)
  ·cases hf
theorem frs_rep1 {c : Ctx} {w : World} (hs : Sim c w) {x x' : TV} {v : Value} (hf : frs c.H x = some x') (hr : Rep c w x v) : Rep c.mine w x' v := by
 rcases hr with (h | h | ⟨us, h, h'⟩) | ⟨xs, vs, rfl, h2, h3⟩
 ·subst h; simp only [frs, Option.some.injEq] at hf; subst hf; exact Rep.any
 ·subst h; simp only [frs, Option.some.injEq] at hf; subst hf; exact Rep.of_val
 ·exact .inl (.inr (.inr ⟨us, frs_rep hs hf h, by rw [h']; exact frs_mkV hf us⟩))
 ·simp only [frs, Option.map_eq_some_iff] at hf
  obtain ⟨ds, hds, rfl⟩ := hf
  exact .inr ⟨ds, vs, rfl, h2, frsL_rep hs hds h3⟩

/-- A CALL THAT LEAVES NOTHING BEHIND, AND YIELDS NEW MEMORY ALONE. -/
def VFresh (P : Program) (f : FuncId) (args : List TV) (R : TV → Prop) : Prop :=
 ∀ (β : Nat → Nat → Option (Nat × Nat)) (F : Nat → Prop) (w : World) (vs : List Value), ((∀ b, F b → b < w.heap.size) ∧ GlobOk F w) → RepL ⟨β, [], F⟩ w args vs →
  Calls P f vs.toArray w fun e w' => ∃ v x F', e = .returned v ∧ R x ∧ Rep ⟨β, [], fun b => F' b ∧ w.heap.size ≤ b⟩ w' x v ∧ Stays F w F' w'


theorem VCalls.toFresh {f : FuncId} {args : List TV} {R : TV → Prop} (h : VCalls P f args [] fun x H' => match frs H' x with | some y => R y | none => False) : VFresh P f args R := by
 intro β F w vs hF hv
 have hs : Sim ⟨β, [], F⟩ w := ⟨fun id o ho => by simp at ho, fun i j x y b o o' hx => by simp at hx, fun b hb => by obtain ⟨i, o, off, h1, _⟩ := hb; simp at h1, hF.1, hF.2⟩
 refine (h β F w vs hs hv).mono ?_
 rintro _ w' ⟨v, x, β', H', F', rfl, hR, hs', hl, hx⟩
 split at hR
 ·rename_i y hy
  have hno : ∀ b, ¬ Ctx.own ⟨β, [], F⟩ b := fun b hb => by obtain ⟨i, o, off, h1, _⟩ := hb; simp at h1
  have hr := frs_rep1 hs' hy hx
  have hnew : ∀ b, Ctx.own ⟨β', H', F'⟩ b → w.heap.size ≤ b := fun b hb => by
   rcases Nat.lt_or_ge b w.heap.size with h1 | h1
   ·exact absurd (hl.oldOwn b h1 hb) (hno b)
   ·exact h1
  refine ⟨v, y, fun b => F b ∨ Ctx.own ⟨β', H', F'⟩ b, rfl, hR, ?_, ⟨hl.os, hl.tape, hl.output, hl.size, fun b hb => hl.same b hb (hno b), fun b hb => .inl hb, fun b hb hF' => hF'.elim id fun h => ?_, fun b hF' => hF'.elim (fun h => Nat.lt_of_lt_of_le (hF.1 b h) hl.size) hs'.own_lt⟩⟩
  ·exact Rep.mono (Mono.ofF (F := Ctx.own ⟨β', H', F'⟩) (F' := fun b => (F b ∨ Ctx.own ⟨β', H', F'⟩ b) ∧ w.heap.size ≤ b) fun b hb => ⟨.inr hb, hnew b hb⟩) hr
  ·have := hnew b h; omega
 ·exact hR.elim

/-- Such a call, to which objects are lent. -/
theorem VFresh.lends {f : FuncId} {args args' : List TV} {R : TV → Prop} {H : List Ob} {K : TV → List Ob → Prop} (h : VFresh P f args' R) (hp : frzL H args = some args') (hk : ∀ x, R x → K x H) : VCalls P f args H K := by
 intro β F w vs hs hv
 refine (h β (fun b => F b ∨ Ctx.own ⟨β, H, F⟩ b) w vs ⟨fun b hb => hb.elim (hs.lt b) hs.own_lt, hs.glob.keep fun b hb => ⟨.inl hb, rfl⟩⟩ (frzL_rep hs hp hv)).mono ?_
 rintro _ w' ⟨v, x, F', rfl, hR, hx, hst⟩
 have hst' : Stays F w (fun b => F b ∨ (F' b ∧ w.heap.size ≤ b)) w' := ⟨hst.os, hst.tape, hst.output, hst.size, hst.same, fun _ h => .inl h, fun b hb h => h.elim id fun h => by omega, fun b hb => hb.elim (fun h => Nat.lt_of_lt_of_le (hs.lt b h) hst.size) fun h => hst.ltF b h.1⟩
 refine ⟨v, x, β, H, _, rfl, hk x hR, hst'.sim hs, hst'.later, Rep.mono (Mono.ofF (F := fun b => F' b ∧ w.heap.size ≤ b) (F' := fun b => F b ∨ (F' b ∧ w.heap.size ≤ b)) fun b hb => .inr hb) hx⟩
end
end Go.Proofs.YtfgljddikcghhaaDoor

namespace Go.Proofs.YtfgljddikcghhaaDoor
open Go.RowKit
variable [Globs]
set_option linter.unusedSectionVars false
set_option linter.unusedSimpArgs false
set_option linter.unusedVariables false
set_option autoImplicit false

/-- An equation that simp is to take for no definition. -/
theorem by_refl {α : Sort _} {a b : α} (h : a = b) : a = b := h

/-- Numbers, truth values, strings. -/
abbrev i64 (n : Int) : TV := .val (.int .i64 n)
abbrev tb (b : Bool) : TV := .val (.bool b)
abbrev ts (l : List UInt8) : TV := .val (.string (str l))
/-- Bytes, strings, numbers in memory. -/
abbrev slB (l : List UInt8) : TV := .sl 1 (l.map by8)
abbrev slS (l : List (List UInt8)) : TV := .sl 1 (l.map ts)

section
variable {P : Program} {e : Env} {H : List Ob}
theorem p_pick {c : Opd} {a : Opd} {b : Opd} {K : TV → Prop} : pop (.pick c a b) e H K = (match c.ev e with
  | .val (.bool t) => K (if t then a.ev e else b.ev e)
  | _ => False) := by_refl rfl
theorem p_b2s {x : Opd} {K : TV → Prop} : pop (.b2s x) e H K = (match elemsOf H 1 (x.ev e) with
  | some cs => (∀ y ∈ cs, isBy y) ∧ K (.val (.string (str (cs.map unby))))
  | none => False) := by_refl rfl
theorem p_load {ag : Bool} {sz : Nat} {x : Opd} {K : TV → Prop} : pop (.load ag sz x) e H K = (match x.ev e with
  | .fp y => ldOk ag sz y ∧ K y
  | .op id ver p => (match H[id]? with
   | some (.obj v x) => v = ver ∧ (match getP p x with | some y => ldOk ag sz y ∧ K y | none => False)
   | _ => False)
  | _ => False) := by_refl rfl
theorem p_idxAA {n : Nat} {k : Nat} {x : Opd} {i : Opd} {K : TV → Prop} : pop (.idxAA n k x i) e H K = (match x.ev e, i.ev e with
  | .fp (.arr n' k' cs), .val (.int _ j) => k' = k ∧ n' = n ∧ 0 ≤ j ∧ (match cs[j.toNat]? with | some y => K (.fp y) | none => False)
  | .op id ver p, .val (.int _ j) => 0 ≤ j ∧ j < n ∧ K (.op id ver (p ++ [(j.toNat, j.toNat * k)]))
  | _, _ => False) := by_refl rfl
theorem p_lenV {x : Opd} {K : TV → Prop} : pop (.lenV x) e H K = (match x.ev e with
  | .val (.slice _ n _) => K (.val (.int .i64 n))
  | .sl _ cs => K (.val (.int .i64 cs.length))
  | .os _ _ _ _ _ n _ => K (.val (.int .i64 n))
  | _ => False) := by_refl rfl
theorem p_slV {k : Nat} {x : Opd} {lo : Option Opd} {hi : Option Opd} {K : TV → Prop} : pop (.slV k x lo hi) e H K = (match x.ev e with
  | .sl k' cs => k' = k ∧ bnd e lo hi cs.length cs.length fun l h => K (.sl k ((cs.drop l).take (h - l)))
  | .os k' id ver p off n cp => k' = k ∧ bnd e lo hi n cp fun l h => K (.os k id ver p (off + l) (h - l) (cp - l))
  | .val (.slice ad 0 0) => bnd e lo hi 0 0 fun l h => K (.val (.slice ad 0 0))
  | _ => False) := by_refl rfl
theorem p_slA {n : Nat} {k : Nat} {x : Opd} {lo : Option Opd} {hi : Option Opd} {K : TV → Prop} : pop (.slA n k x lo hi) e H K = (match x.ev e with
  | .fp (.arr n' k' cs) => k' = k ∧ n' = n ∧ n ≤ 9223372036854775807 ∧ bnd e lo hi n n fun l h => K (.sl k ((cs.drop l).take (h - l)))
  | .op id ver p => (match H[id]? with
   | some (.obj v x) => v = ver ∧ n ≤ 9223372036854775807 ∧ (match getP p x with | some (.arr n' k' cs) => k' = k ∧ n' = n ∧ bnd e lo hi n n fun l h => K (.os k id ver p l (h - l) (n - l)) | _ => False)
   | _ => False)
  | _ => False) := by_refl rfl
theorem p_mkf {f : Fn} {first : List Opd} {caps : List Opd} {K : TV → Prop} : pop (.mkf f first caps) e H K = ((∀ x ∈ first ++ caps, isTup (x.ev e) = false) ∧ K (.fn f (first.map (·.ev e)) (caps.map (·.ev e)))) := by_refl rfl
theorem p_nilc {x : Opd} {K : TV → Prop} : pop (.nilc x) e H K = (match x.ev e with
  | .op id ver p => K (.op id ver p)
  | .fp y => K (.fp y)
  | .fn (.func f) a b => K (.fn (.func f) a b)
  | .ifc t y => K (.ifc t y)
  | .val (.func (.func f) a b) => K (.val (.func (.func f) a b))
  | _ => False) := by_refl rfl
theorem q_bslice {k : Nat} {n : Nat} {z : TV} {ps : List (Nat × Opd)} {K : TV → List Ob → Prop} : sop P (.bslice k n z ps) e H K = ((fillsOk e (List.replicate n k) ps ∧ fillsPure e ps ∧ n ≤ 1000) ∧ K (.os k H.length 0 [] 0 n n) (H ++ [.obj 0 (.arr n k (fills e (List.replicate n z) ps))])) := by_refl rfl
theorem q_store {sz : Nat} {x : Opd} {v : Opd} {K : TV → List Ob → Prop} : sop P (.store sz x v) e H K = ((lays (v.ev e) = true ∧ width (v.ev e) = sz) ∧ (match x.ev e with
  | .op id ver p => (match H[id]? with
   | some (.obj vr y) => vr = ver ∧ (match setP p y (v.ev e) with | some y' => K .any (H.set id (.obj ver y')) | none => False)
   | _ => False)
  | _ => False)) := by_refl rfl
theorem q_call {f : FuncId} {args : List Opd} {K : TV → List Ob → Prop} : sop P (.call f args) e H K = ((∀ x ∈ args, isTup (x.ev e) = false) ∧ VCalls P f (args.map (·.ev e)) H K) := by_refl rfl
theorem q_callv {x : Opd} {args : List Opd} {K : TV → List Ob → Prop} : sop P (.callv x args) e H K = ((∀ x ∈ args, isTup (x.ev e) = false) ∧ (match x.ev e with
  | .fn (.func f) first caps => isGo P f = true ∧ VCalls P f (first ++ args.map (·.ev e) ++ caps) H K
  | .val (.func (.func f) xs ys) => (xs.isEmpty && ys.isEmpty) = true ∧ isGo P f = true ∧ VCalls P f (args.map (·.ev e)) H K
  | .yl id ver => VYield P id ver (args.map (·.ev e)) H K
  | _ => False)) := by_refl rfl
theorem v_skip  {Q : VEx → Env → List Ob → Prop} : vwp P (.skip ) Q e H = (Q .nor e H) := by_refl rfl
theorem v_seq {a : VCode} {b : VCode} {Q : VEx → Env → List Ob → Prop} : vwp P (.seq a b) Q e H = (vwp P a (fun x e H => match x with | .nor => vwp P b Q e H | .exit i => Q (.exit i) e H | .ret => Q .ret e H | .pan u => Q (.pan u) e H) e H) := by_refl rfl
theorem v_loop {lv : List Nat} {c : VCode} {Q : VEx → Env → List Ob → Prop} {H0 : List Ob} : vwp P (.loop lv c) Q e H0 = (∃ (I : Nat → Env → List Ob → Prop) (n : Nat), I n (forget lv e) H0 ∧
   ∀ n e H, I n e H → vwp P c (fun x e H => match x with | .nor => ∃ m g, m < n ∧ (H0.length ≤ g ∧ (H.length ≤ g ∨ (belowE g (forget lv e) = true ∧ belowH g (H.take g) = true))) ∧ I m (forget lv e) (H.take g) | .exit i => Q (.exit i) e H | .ret => Q .ret e H | .pan u => Q (.pan u) e H) e H) := by_refl rfl
theorem v_exit {id : Nat} {Q : VEx → Env → List Ob → Prop} : vwp P (.exit id) Q e H = (Q (.exit id) e H) := by_refl rfl
theorem v_ret  {Q : VEx → Env → List Ob → Prop} : vwp P (.ret ) Q e H = (Q .ret e H) := by_refl rfl
theorem v_scope {c : VCode} {Q : VEx → Env → List Ob → Prop} : vwp P (.scope c) Q e H = (vwp P c Q e H) := by_refl rfl
theorem v_own {s k : Nat} {c : VCode} {Q : VEx → Env → List Ob → Prop} : vwp P (.own s k c) Q e H = (match get e s with
  | .val (.slice none 0 0) => vwp P c Q ((s, .os k H.length 0 [] 0 0 0) :: e) (H ++ [.obj 0 (.arr 0 k [])])
  | _ => vwp P c Q e H) := by_refl rfl
theorem v_ownB {s k : Nat} {p : List (Nat × Nat)} {c : VCode} {Q : VEx → Env → List Ob → Prop} : vwp P (.ownB s p k c) Q e H = (match get e s with
  | .op id ver p0 => (match H[id]? with
   | some (.obj v x) => v = ver ∧ (match getP (p0 ++ p) x with
    | some (.val (.slice none 0 0)) => (match setP (p0 ++ p) x (.os k H.length 0 [] 0 0 0) with
     | some x' => vwp P c Q e (H.set id (.obj ver x') ++ [.obj 0 (.arr 0 k [])])
     | none => False)
    | _ => vwp P c Q e H)
   | _ => False)
  | _ => False) := by_refl rfl
theorem v_ownT {s : Nat} {t : TypeId} {p : List (Nat × Nat)} {c : VCode} {Q : VEx → Env → List Ob → Prop} : vwp P (.ownT s p t c) Q e H = (match get e s with
  | .op id ver p0 => (match H[id]? with
   | some (.obj v x) => v = ver ∧ (match getP (p0 ++ p) x with
    | some (.val (.slice none 0 0)) => (match setP (p0 ++ p) x (.os 1 H.length 0 [] 0 0 0) with
     | some x' => vwp P c Q e (H.set id (.obj ver x') ++ [.bld 0 t []])
     | none => False)
    | _ => vwp P c Q e H)
   | _ => False)
  | _ => False) := by_refl rfl
theorem w_frz {s k id ver off n cp m : Nat} {xs : List TV} {c : VCode} {Q : VEx → Env → List Ob → Prop} (hg : get e s = .os k id ver [] off n cp) (ho : H[id]? = some (.obj ver (.arr m k xs))) (hn : off + n ≤ xs.length) (h : vwp P c Q ((s, .sl k ((xs.drop off).take n)) :: e) (H.set id (.gone ver))) : vwp P (.frz s c) Q e H := by
 rw [vwp, hg]
 simp only [ho]
 refine ⟨trivial, ?_⟩
 have : elemsAt [] k off n (.arr m k xs) = some ((xs.drop off).take n) := by unfold elemsAt; simp [getP, hn]
 rw [this]; exact h
theorem vops_nil {K : Env → List Ob → Prop} : vops P [] K e H = K e H := by_refl rfl
theorem vops_p {d : Nat} {o : POp} {r : List VO} {K : Env → List Ob → Prop} : vops P (⟨some d, .p o, none⟩ :: r) K e H = pop o e H fun x => vops P r K ((d, x) :: e) H := by_refl rfl
theorem vops_s {d : Nat} {o : SOp} {r : List VO} {K : Env → List Ob → Prop} : vops P (⟨some d, .s o, none⟩ :: r) K e H = sop P o e H fun x H => vops P r K ((d, x) :: e) H := by_refl rfl
theorem vops_s0 {o : SOp} {r : List VO} {K : Env → List Ob → Prop} : vops P (⟨none, .s o, none⟩ :: r) K e H = sop P o e H fun x H => vops P r K e H := by_refl rfl
theorem vops_g {d s : Nat} {o : VOp} {b : Bool} {r : List VO} {K : Env → List Ob → Prop} : vops P (⟨some d, o, some (s, b)⟩ :: r) K e H = knowB e s fun e q => match q with
 | some t => if t = b then vop P o e H (fun x H => vops P r K ((d, x) :: e) H) else vops P r K ((d, .val undef) :: e) H
 | none => vops P r K ((d, .val undef) :: e) H := by_refl rfl
theorem vop_p {o : POp} {K : TV → List Ob → Prop} : vop P (.p o) e H K = pop o e H fun x => K x H := by_refl rfl
theorem vop_s {o : SOp} {K : TV → List Ob → Prop} : vop P (.s o) e H K = sop P o e H K := by_refl rfl
theorem vq_nil {K : Env → Prop} : vq P [] K e H = K e := by_refl rfl
theorem vq_p {d : Nat} {o : POp} {r : List VO} {K : Env → Prop} : vq P (⟨some d, .p o, none⟩ :: r) K e H = pop o e H fun x => vq P r K ((d, x) :: e) H := by_refl rfl
theorem vq_c {d : Nat} {f : FuncId} {args : List Opd} {r : List VO} {K : Env → Prop} : vq P (⟨some d, .s (.call f args), none⟩ :: r) K e H = ((∀ x ∈ args, isTup (x.ev e) = false) ∧ ∃ x, VCalls P f (args.map (·.ev e)) H (fun y H' => y = x ∧ H' = H) ∧ vq P r K ((d, x) :: e) H) := by_refl rfl
theorem quiet_p {o : POp} {k : TV → Prop} : quiet P (.p o) e H k = pop o e H k := by_refl rfl
theorem quiet_c {f : FuncId} {args : List Opd} {k : TV → Prop} : quiet P (.s (.call f args)) e H k = ((∀ x ∈ args, isTup (x.ev e) = false) ∧ ∃ x, VCalls P f (args.map (·.ev e)) H (fun y H' => y = x ∧ H' = H) ∧ k x) := by_refl rfl
variable {t : TypeId} {a b : Int} {k : IntKind}
theorem wrap64_id {n : Int} (h1 : -9223372036854775808 ≤ n) (h2 : n ≤ 9223372036854775807) : IntKind.i64.wrap n = n := by rw [IntKind.wrap_i64]; omega
theorem b_add (h1 : -9223372036854775808 ≤ a + b) (h2 : a + b ≤ 9223372036854775807) : binV t .add (.int .i64 a) (.int .i64 b) = some (.int .i64 (a + b)) := by
 rw [show binV t .add (.int .i64 a) (.int .i64 b) = some (.int .i64 (IntKind.i64.wrap (a + b))) from rfl, wrap64_id h1 h2]
theorem b_sub (h1 : -9223372036854775808 ≤ a - b) (h2 : a - b ≤ 9223372036854775807) : binV t .sub (.int .i64 a) (.int .i64 b) = some (.int .i64 (a - b)) := by
 rw [show binV t .sub (.int .i64 a) (.int .i64 b) = some (.int .i64 (IntKind.i64.wrap (a - b))) from rfl, wrap64_id h1 h2]
theorem b_mul (h1 : -9223372036854775808 ≤ a * b) (h2 : a * b ≤ 9223372036854775807) : binV t .mul (.int .i64 a) (.int .i64 b) = some (.int .i64 (a * b)) := by
 rw [show binV t .mul (.int .i64 a) (.int .i64 b) = some (.int .i64 (IntKind.i64.wrap (a * b))) from rfl, wrap64_id h1 h2]
theorem b_eql : binV t .eql (.int k a) (.int k b) = some (.bool (decide (a = b))) := by
 rw [show binV t .eql (.int k a) (.int k b) = some (.bool (a == b)) from by simp [binV, binOp, Op.intCmp]; rfl]; rfl
theorem b_neq : binV t .neq (.int k a) (.int k b) = some (.bool (!decide (a = b))) := by
 rw [show binV t .neq (.int k a) (.int k b) = some (.bool (a != b)) from by simp [binV, binOp, Op.intCmp]; rfl]; rfl
theorem b_lss : binV t .lss (.int k a) (.int k b) = some (.bool (decide (a < b))) := by simp [binV, binOp, Op.intCmp]; rfl
theorem b_leq : binV t .leq (.int k a) (.int k b) = some (.bool (decide (a ≤ b))) := by simp [binV, binOp, Op.intCmp]; rfl
theorem b_gtr : binV t .gtr (.int k a) (.int k b) = some (.bool (decide (b < a))) := by simp [binV, binOp, Op.intCmp]; rfl
theorem b_geq : binV t .geq (.int k a) (.int k b) = some (.bool (decide (b ≤ a))) := by simp [binV, binOp, Op.intCmp]; rfl
theorem ptrNil_p0 : ptrNil 0 (.val (.pointer none)) = some true := by_refl rfl
theorem ptrNil_op {i v : Nat} {p : List (Nat × Nat)} : ptrNil 0 (.op i v p) = some false := by_refl rfl
theorem ptrNil_fp {x : TV} : ptrNil 0 (.fp x) = some false := by_refl rfl
theorem ptrNil_i0 : ptrNil 1 (.val .nilIface) = some true := by_refl rfl
theorem ptrNil_ifc {t : TypeId} {x : TV} : ptrNil 1 (.ifc t x) = some false := by_refl rfl
theorem ptrNil_m0 : ptrNil 2 (.val (.map none)) = some true := by_refl rfl
theorem ptrNil_mp {i v : Nat} : ptrNil 2 (.mp i v) = some false := by_refl rfl
theorem ptrNil_yl {i v : Nat} : ptrNil 3 (.yl i v) = some false := by_refl rfl
theorem ptrNil_f0 : ptrNil 3 (.val .nilFunc) = some true := by_refl rfl
theorem ptrNil_fn {f : Fn} {a b : List TV} : ptrNil 3 (.fn f a b) = some false := by_refl rfl
theorem bvOf {n : Int} (h0 : 0 ≤ n) (h1 : n < 18446744073709551616) : (BitVec.ofInt 64 n).toNat = n.toNat := by
 rw [BitVec.toNat_ofInt]
 have : n % ((2 ^ 64 : Nat) : Int) = n := Int.emod_eq_of_lt h0 (by simpa using h1)
 rw [this]
theorem b_and (h1 : 0 ≤ a) (h2 : a ≤ 9223372036854775807) (h3 : 0 ≤ b) (h4 : b ≤ 9223372036854775807) : binV t .and (.int .i64 a) (.int .i64 b) = some (.int .i64 ((a.toNat &&& b.toNat : Nat) : Int)) := by
 rw [show binV t .and (.int .i64 a) (.int .i64 b) = some (.int .i64 (IntKind.i64.wrap ((BitVec.ofInt 64 a &&& BitVec.ofInt 64 b).toNat : Int))) from rfl, BitVec.toNat_and, bvOf h1 (by omega), bvOf h3 (by omega)]
 have := Nat.and_le_left (n := a.toNat) (m := b.toNat)
 rw [wrap64_id (by omega) (by omega)]
theorem b_or (h1 : 0 ≤ a) (h2 : a ≤ 9223372036854775807) (h3 : 0 ≤ b) (h4 : b ≤ 9223372036854775807) : binV t .or (.int .i64 a) (.int .i64 b) = some (.int .i64 ((a.toNat ||| b.toNat : Nat) : Int)) := by
 rw [show binV t .or (.int .i64 a) (.int .i64 b) = some (.int .i64 (IntKind.i64.wrap ((BitVec.ofInt 64 a ||| BitVec.ofInt 64 b).toNat : Int))) from rfl, BitVec.toNat_or, bvOf h1 (by omega), bvOf h3 (by omega)]
 have := Nat.or_lt_two_pow (n := 63) (x := a.toNat) (y := b.toNat) (by omega) (by omega)
 rw [wrap64_id (by omega) (by omega)]
theorem b_shl {k2 : IntKind} (h1 : 0 ≤ b) (h2 : b ≤ 63) (h3 : 0 ≤ a * 2 ^ b.toNat) (h4 : a * 2 ^ b.toNat ≤ 9223372036854775807) : binV t .shl (.int .i64 a) (.int k2 b) = some (.int .i64 (a * 2 ^ b.toNat)) := by
 have e : binOp .shl t (.int .i64 a) (.int k2 b) = pure (.int .i64 (a * 2 ^ b.toNat)) := by
  show Op.shift .shl .i64 a k2 b = _
  unfold Op.shift
  rw [if_neg (by omega)]
  have hm : min b.toNat IntKind.i64.bits = b.toNat := by
   have : IntKind.i64.bits = 64 := rfl
   omega
  simp only [hm]
  rw [wrap64_id (by omega) h4]
 unfold binV; rw [e]; rfl
theorem b_shr {k2 : IntKind} (h1 : 0 ≤ b) (h2 : b ≤ 63) (h3 : 0 ≤ a) : binV t .shr (.int .i64 a) (.int k2 b) = some (.int .i64 (a / 2 ^ b.toNat)) := by
 have e : binOp .shr t (.int .i64 a) (.int k2 b) = pure (.int .i64 (a / 2 ^ b.toNat)) := by
  show Op.shift .shr .i64 a k2 b = _
  unfold Op.shift
  rw [if_neg (by omega)]
  have hm : min b.toNat IntKind.i64.bits = b.toNat := by
   have : IntKind.i64.bits = 64 := rfl
   omega
  simp only [hm]
  rw [Int.fdiv_eq_ediv_of_nonneg _ (by exact Int.le_of_lt (Int.pow_pos (by omega)))]
 unfold binV; rw [e]; rfl
theorem b_rem (h1 : 0 ≤ a) (h2 : b ≠ 0) : binV t .rem (.int k a) (.int k b) = some (.int k (a % b)) := by
 have e : binOp .rem t (.int k a) (.int k b) = pure (.int k (a % b)) := by
  unfold binOp
  simp only [ne_eq, not_true_eq_false, if_false, Op.intDiv, h2, Int.tmod_eq_emod_of_nonneg h1]
 unfold binV; rw [e]; rfl
theorem b_quo (h1 : 0 ≤ a) (h2 : 0 < b) (h3 : a ≤ 9223372036854775807) : binV t .quo (.int .i64 a) (.int .i64 b) = some (.int .i64 (a / b)) := by
 have e : binOp .quo t (.int .i64 a) (.int .i64 b) = pure (.int .i64 (a / b)) := by
  unfold binOp
  simp only [ne_eq, not_true_eq_false, if_false, Op.intDiv, show ¬ b = 0 from by omega, Int.tdiv_eq_ediv_of_nonneg h1]
  have h4 : a / b ≤ a := Int.ediv_le_self _ h1
  have h5 : 0 ≤ a / b := Int.ediv_nonneg h1 (by omega)
  rw [wrap64_id (by omega) (by omega)]
 unfold binV; rw [e]; rfl
theorem b_xor8 {x y : UInt8} : binV t .xor (.int .u8 (x.toNat : Int)) (.int .u8 (y.toNat : Int)) = some (.int .u8 ((x ^^^ y).toNat : Int)) := by
 rw [show binV t .xor (.int .u8 (x.toNat : Int)) (.int .u8 (y.toNat : Int)) = some (.int .u8 (IntKind.u8.wrap ((BitVec.ofInt 8 (x.toNat : Int) ^^^ BitVec.ofInt 8 (y.toNat : Int)).toNat : Int))) from rfl]
 rw [BitVec.ofInt_natCast, BitVec.ofInt_natCast, UInt8.toNat_xor, BitVec.toNat_xor, BitVec.toNat_ofNat, BitVec.toNat_ofNat, Nat.mod_eq_of_lt x.toNat_lt, Nat.mod_eq_of_lt y.toNat_lt]
 have := Nat.xor_lt_two_pow (n := 8) x.toNat_lt y.toNat_lt
 rw [IntKind.wrap_u8]; congr 2; omega
theorem toList_str (l : List UInt8) : (str l).toList = l := by simp [str, ByteArray.toList_eq]
theorem list_beq {l m : List UInt8} : (l == m) = decide (l = m) := by
 by_cases h : l = m <;> simp [h]
theorem s_eql {l m : List UInt8} : binV t .eql (.string (str l)) (.string (str m)) = some (.bool (decide (l = m))) := by
 rw [show binV t .eql (.string (str l)) (.string (str m)) = some (.bool ((str l).toList == (str m).toList)) from rfl, toList_str, toList_str, list_beq]
theorem s_neq {l m : List UInt8} : binV t .neq (.string (str l)) (.string (str m)) = some (.bool (!decide (l = m))) := by
 rw [show binV t .neq (.string (str l)) (.string (str m)) = some (.bool (!((str l).toList == (str m).toList))) from rfl, toList_str, toList_str, list_beq]
theorem u_not {b : Bool} : unV .not (.bool b) = some (.bool (!b)) := by_refl rfl
theorem calm_int {u : Value} : calm (.int k a) u = true := by cases u <;> rfl
theorem calm_str {s : ByteArray} {u : Value} : calm (.string s) u = true := by cases u <;> rfl

theorem isAg_val {v : Value} : isAg (TV.val v) = false := by_refl rfl
theorem isAg_any  : isAg (TV.any) = false := by_refl rfl
theorem isAg_sl {k : Nat} {cs : List TV} : isAg (TV.sl k cs) = false := by_refl rfl
theorem isAg_fp {x : TV} : isAg (TV.fp x) = false := by_refl rfl
theorem isAg_op {i : Nat} {v : Nat} {p : List (Nat × Nat)} : isAg (TV.op i v p) = false := by_refl rfl
theorem isAg_os {k : Nat} {i : Nat} {v : Nat} {p : List (Nat × Nat)} {o : Nat} {n : Nat} {cp : Nat} : isAg (TV.os k i v p o n cp) = false := by_refl rfl
theorem isAg_agg {cs : List TV} : isAg (TV.agg cs) = true := by_refl rfl
theorem isAg_arr {n : Nat} {k : Nat} {cs : List TV} : isAg (TV.arr n k cs) = true := by_refl rfl
theorem isAg_tup {vs : List TV} : isAg (TV.tup vs) = false := by_refl rfl
theorem isAg_ifc {t : TypeId} {x : TV} : isAg (TV.ifc t x) = false := by_refl rfl
theorem isAg_fn {f : Fn} {a : List TV} {b : List TV} : isAg (TV.fn f a b) = false := by_refl rfl
theorem isAg_mp {i : Nat} {v : Nat} : isAg (TV.mp i v) = false := by_refl rfl
theorem isAg_yl {i : Nat} {v : Nat} : isAg (TV.yl i v) = false := by_refl rfl
theorem isTup_val {v : Value} : isTup (TV.val v) = false := by_refl rfl
theorem isTup_any  : isTup (TV.any) = false := by_refl rfl
theorem isTup_sl {k : Nat} {cs : List TV} : isTup (TV.sl k cs) = false := by_refl rfl
theorem isTup_fp {x : TV} : isTup (TV.fp x) = false := by_refl rfl
theorem isTup_op {i : Nat} {v : Nat} {p : List (Nat × Nat)} : isTup (TV.op i v p) = false := by_refl rfl
theorem isTup_os {k : Nat} {i : Nat} {v : Nat} {p : List (Nat × Nat)} {o : Nat} {n : Nat} {cp : Nat} : isTup (TV.os k i v p o n cp) = false := by_refl rfl
theorem isTup_agg {cs : List TV} : isTup (TV.agg cs) = false := by_refl rfl
theorem isTup_arr {n : Nat} {k : Nat} {cs : List TV} : isTup (TV.arr n k cs) = false := by_refl rfl
theorem isTup_tup {vs : List TV} : isTup (TV.tup vs) = true := by_refl rfl
theorem isTup_ifc {t : TypeId} {x : TV} : isTup (TV.ifc t x) = false := by_refl rfl
theorem isTup_fn {f : Fn} {a : List TV} {b : List TV} : isTup (TV.fn f a b) = false := by_refl rfl
theorem isTup_mp {i : Nat} {v : Nat} : isTup (TV.mp i v) = false := by_refl rfl
theorem isTup_yl {i : Nat} {v : Nat} : isTup (TV.yl i v) = false := by_refl rfl
theorem lays_any  : lays (TV.any) = false := by_refl rfl
theorem lays_sl {k : Nat} {cs : List TV} : lays (TV.sl k cs) = true := by_refl rfl
theorem lays_fp {x : TV} : lays (TV.fp x) = true := by_refl rfl
theorem lays_op {i : Nat} {v : Nat} {p : List (Nat × Nat)} : lays (TV.op i v p) = true := by_refl rfl
theorem lays_os {k : Nat} {i : Nat} {v : Nat} {p : List (Nat × Nat)} {o : Nat} {n : Nat} {cp : Nat} : lays (TV.os k i v p o n cp) = true := by_refl rfl
theorem lays_agg {cs : List TV} : lays (TV.agg cs) = true := by_refl rfl
theorem lays_arr {n : Nat} {k : Nat} {cs : List TV} : lays (TV.arr n k cs) = true := by_refl rfl
theorem lays_tup {vs : List TV} : lays (TV.tup vs) = false := by_refl rfl
theorem lays_ifc {t : TypeId} {x : TV} : lays (TV.ifc t x) = true := by_refl rfl
theorem lays_fn {f : Fn} {a : List TV} {b : List TV} : lays (TV.fn f a b) = true := by_refl rfl
theorem lays_mp {i : Nat} {v : Nat} : lays (TV.mp i v) = true := by_refl rfl
theorem lays_yl {i : Nat} {v : Nat} : lays (TV.yl i v) = true := by_refl rfl
theorem pureT_val {v : Value} : pureT (TV.val v) = true := by_refl rfl
theorem pureT_any  : pureT (TV.any) = true := by_refl rfl
theorem pureT_sl {k : Nat} {cs : List TV} : pureT (TV.sl k cs) = true := by_refl rfl
theorem pureT_fp {x : TV} : pureT (TV.fp x) = true := by_refl rfl
theorem pureT_op {i : Nat} {v : Nat} {p : List (Nat × Nat)} : pureT (TV.op i v p) = false := by_refl rfl
theorem pureT_os {k : Nat} {i : Nat} {v : Nat} {p : List (Nat × Nat)} {o : Nat} {n : Nat} {cp : Nat} : pureT (TV.os k i v p o n cp) = false := by_refl rfl
theorem pureT_arr {n : Nat} {k : Nat} {cs : List TV} : pureT (TV.arr n k cs) = true := by_refl rfl
theorem pureT_mp {i : Nat} {v : Nat} : pureT (TV.mp i v) = false := by_refl rfl
theorem pureT_yl {i : Nat} {v : Nat} : pureT (TV.yl i v) = false := by_refl rfl
theorem width_val {v : Value} : width (TV.val v) = 1 := by_refl rfl
theorem width_any  : width (TV.any) = 1 := by_refl rfl
theorem width_sl {k : Nat} {cs : List TV} : width (TV.sl k cs) = 1 := by_refl rfl
theorem width_fp {x : TV} : width (TV.fp x) = 1 := by_refl rfl
theorem width_op {i : Nat} {v : Nat} {p : List (Nat × Nat)} : width (TV.op i v p) = 1 := by_refl rfl
theorem width_os {k : Nat} {i : Nat} {v : Nat} {p : List (Nat × Nat)} {o : Nat} {n : Nat} {cp : Nat} : width (TV.os k i v p o n cp) = 1 := by_refl rfl
theorem width_tup {vs : List TV} : width (TV.tup vs) = 1 := by_refl rfl
theorem width_ifc {t : TypeId} {x : TV} : width (TV.ifc t x) = 1 := by_refl rfl
theorem width_fn {f : Fn} {a : List TV} {b : List TV} : width (TV.fn f a b) = 1 := by_refl rfl
theorem width_mp {i : Nat} {v : Nat} : width (TV.mp i v) = 1 := by_refl rfl
theorem width_yl {i : Nat} {v : Nat} : width (TV.yl i v) = 1 := by_refl rfl
theorem width_agg {cs : List TV} : width (.agg cs) = widths cs := by rw [width]
theorem width_arr {n k : Nat} {cs : List TV} : width (.arr n k cs) = n * k := by rw [width]
theorem widths_nil : widths [] = 0 := by_refl rfl
theorem widths_cons {x : TV} {xs : List TV} : widths (x :: xs) = width x + widths xs := by rw [widths]
theorem pureT_agg {cs : List TV} : pureT (.agg cs) = pureL cs := by rw [pureT]
theorem pureT_ifc {t : TypeId} {x : TV} : pureT (.ifc t x) = pureT x := by rw [pureT]
theorem pureT_tup {cs : List TV} : pureT (.tup cs) = pureL cs := by rw [pureT]
theorem pureL_nil : pureL [] = true := by_refl rfl
theorem pureL_cons {x : TV} {xs : List TV} : pureL (x :: xs) = (pureT x && pureL xs) := by rw [pureL]
theorem lays_int {k : IntKind} {n : Int} : lays (.val (.int k n)) = true := by_refl rfl
theorem lays_bool {b : Bool} : lays (.val (.bool b)) = true := by_refl rfl
theorem lays_string {s : ByteArray} : lays (.val (.string s)) = true := by_refl rfl
theorem lays_pointer {p : Option Addr} : lays (.val (.pointer p)) = true := by_refl rfl
theorem lays_slice {p : Option Addr} {n c : Nat} : lays (.val (.slice p n c)) = true := by_refl rfl
theorem lays_map {r : Option Nat} : lays (.val (.map r)) = true := by_refl rfl
theorem lays_func {f : Fn} {a b : Array Value} : lays (.val (.func f a b)) = true := by_refl rfl
theorem lays_nilFunc : lays (.val .nilFunc) = true := by_refl rfl
theorem lays_nilIface : lays (.val .nilIface) = true := by_refl rfl
theorem ev_t {e : Env} {n : Nat} : (Opd.t n).ev e = get e n := by_refl rfl
theorem ev_g {e : Env} {n : Nat} : (Opd.g n).ev e = (match globOf n with | some x => .fp x.tv | none => .val (.pointer (some ⟨n, 0, none⟩))) := by_refl rfl
theorem ev_c {e : Env} {v : Value} : (Opd.c v).ev e = .val v := by_refl rfl
theorem getP_nil {x : TV} : getP [] x = some x := by_refl rfl
theorem getP_agg {i d : Nat} {p : List (Nat × Nat)} {cs : List TV} : getP ((i, d) :: p) (.agg cs) = if widths (cs.take i) = d then (cs[i]?).bind (getP p) else none := by rw [getP]
theorem getP_arr {i d n k : Nat} {p : List (Nat × Nat)} {cs : List TV} : getP ((i, d) :: p) (.arr n k cs) = if d = i * k then (cs[i]?).bind (getP p) else none := by rw [getP]
theorem setP_nil {x y : TV} : setP [] x y = if width y = width x then some y else none := by rw [setP]
theorem setP_agg {i d : Nat} {p : List (Nat × Nat)} {cs : List TV} {y : TV} : setP ((i, d) :: p) (.agg cs) y = if widths (cs.take i) = d then (cs[i]?).bind fun c => (setP p c y).map fun c' => .agg (cs.set i c') else none := by rw [setP]
theorem setP_arr {i d n k : Nat} {p : List (Nat × Nat)} {cs : List TV} {y : TV} : setP ((i, d) :: p) (.arr n k cs) y = if d = i * k ∧ pureT y = true then (cs[i]?).bind fun c => (setP p c y).map fun c' => .arr n k (cs.set i c') else none := by rw [setP]
theorem forget_nil {e : Env} : forget [] e = [] := by_refl rfl
theorem forget_cons {e : Env} {s : Nat} {ks : List Nat} : forget (s :: ks) e = (s, get e s) :: forget ks e := by_refl rfl
theorem argsE_nil {i : Nat} : argsE i [] = [] := by_refl rfl
theorem argsE_cons {i : Nat} {x : TV} {xs : List TV} : argsE i (x :: xs) = (i, x) :: argsE (i + 1) xs := by_refl rfl
theorem ldOk_iff {ag : Bool} {sz : Nat} {y : TV} : ldOk ag sz y = (width y = sz ∧ isAg y = ag) := by_refl rfl
theorem elemsOf_sl {H : List Ob} {k k2 : Nat} {cs : List TV} : elemsOf H k (.sl k2 cs) = if k2 = k then some cs else none := by_refl rfl
theorem elemsOf_nil {H : List Ob} {k : Nat} {p : Option Addr} {n c : Nat} : elemsOf H k (.val (.slice p n c)) = if n = 0 ∧ p.isNone ∧ c = 0 then some [] else none := by_refl rfl
theorem elemsOf_os {H : List Ob} {k k2 i v o n cp : Nat} {p : List (Nat × Nat)} : elemsOf H k (.os k2 i v p o n cp) = if k2 = k then (match H[i]? with | some (.obj vr x) => if vr = v then elemsAt p k o n x else none | _ => none) else none := by_refl rfl
theorem elemsAt_nil {k k2 o n N : Nat} {cs : List TV} : elemsAt [] k o n (.arr N k2 cs) = if k2 = k ∧ o + n ≤ cs.length then some ((cs.drop o).take n) else none := by_refl rfl
theorem fills_nil {e : Env} {zs : List TV} : fills e zs [] = zs := by_refl rfl
theorem fills_cons {e : Env} {zs : List TV} {i : Nat} {x : Opd} {ps : List (Nat × Opd)} : fills e zs ((i, x) :: ps) = fills e (zs.set i (x.ev e)) ps := by_refl rfl
theorem fillsOk_nil {e : Env} {ks : List Nat} : fillsOk e ks [] = True := by_refl rfl
theorem fillsOk_cons {e : Env} {ks : List Nat} {i : Nat} {x : Opd} {ps : List (Nat × Opd)} : fillsOk e ks ((i, x) :: ps) = ((lays (x.ev e) = true ∧ ks[i]? = some (width (x.ev e))) ∧ fillsOk e ks ps) := by_refl rfl
theorem fillsPure_nil {e : Env} : fillsPure e [] = True := by_refl rfl
theorem fillsPure_cons {e : Env} {i : Nat} {x : Opd} {ps : List (Nat × Opd)} : fillsPure e ((i, x) :: ps) = (pureT (x.ev e) = true ∧ fillsPure e ps) := by_refl rfl
theorem res_tmp {t : Nat} {e : Env} {H : List Ob} {K : TV → Prop} : res [.tmp t] e H K = K (get e t) := by_refl rfl
theorem res_cell {a sz : Nat} {ag : Bool} {e : Env} {H : List Ob} {K : TV → Prop} : res [.cell a ag sz] e H K = pop (.load ag sz (.t a)) e H K := by_refl rfl
theorem res_nil {e : Env} {H : List Ob} {K : TV → Prop} : res [] e H K = ((∀ x ∈ ([] : List TV), isTup x = false) ∧ K (.tup [])) := by_refl rfl
theorem res_two {r s : VR} {e : Env} {H : List Ob} {K : TV → Prop} : res [r, s] e H K = resL [r, s] e H fun xs => match xs with | [x] => K x | xs => (∀ x ∈ xs, isTup x = false) ∧ K (.tup xs) := by_refl rfl
theorem res_many {r s : VR} {l : List VR} {e : Env} {H : List Ob} {K : TV → Prop} : res (r :: s :: l) e H K = resL (r :: s :: l) e H fun xs => match xs with | [x] => K x | xs => (∀ x ∈ xs, isTup x = false) ∧ K (.tup xs) := by_refl rfl
theorem resL_nil {e : Env} {H : List Ob} {K : List TV → Prop} : resL [] e H K = K [] := by_refl rfl
theorem resL_tmp {t : Nat} {r : List VR} {e : Env} {H : List Ob} {K : List TV → Prop} : resL (.tmp t :: r) e H K = resL r e H fun xs => K (get e t :: xs) := by_refl rfl
theorem resL_cell {a sz : Nat} {ag : Bool} {r : List VR} {e : Env} {H : List Ob} {K : List TV → Prop} : resL (.cell a ag sz :: r) e H K = pop (.load ag sz (.t a)) e H fun x => resL r e H fun xs => K (x :: xs) := by_refl rfl
theorem atEnd_ret {vr : List VR} {R : TV → List Ob → Prop} {e : Env} {H : List Ob} : atEnd vr R .ret e H = res vr e H fun x => R x H := by_refl rfl
theorem atEnd_nor {vr : List VR} {R : TV → List Ob → Prop} {e : Env} {H : List Ob} : atEnd vr R .nor e H = res vr e H fun x => R x H := by_refl rfl
theorem frzG_val {H : List Ob} {g : TV → Option TV} {v : Value} : frzG H g (TV.val v) = some (.val v) := by rw [frzG]
theorem frzG_any {H : List Ob} {g : TV → Option TV}  : frzG H g (TV.any) = some (.any) := by rw [frzG]
theorem frzG_sl {H : List Ob} {g : TV → Option TV} {k : Nat} {cs : List TV} : frzG H g (TV.sl k cs) = some (.sl k cs) := by rw [frzG]
theorem frzG_fp {H : List Ob} {g : TV → Option TV} {x : TV} : frzG H g (TV.fp x) = some (.fp x) := by rw [frzG]
theorem frzG_arr {H : List Ob} {g : TV → Option TV} {n : Nat} {k : Nat} {cs : List TV} : frzG H g (TV.arr n k cs) = some (.arr n k cs) := by rw [frzG]
theorem frzG_os {H : List Ob} {g : TV → Option TV} {k i v o n cp : Nat} {p : List (Nat × Nat)} : frzG H g (.os k i v p o n cp) = (match H[i]? with | some (.obj vr x) => if vr = v then (elemsAt p k o n x).map (.sl k) else none | _ => none) := by rw [frzG]; rfl
theorem frzG_op {H : List Ob} {g : TV → Option TV} {i v : Nat} {p : List (Nat × Nat)} : frzG H g (.op i v p) = (match H[i]? with | some (.obj vr x) => if vr = v then (getP p x).bind fun y => (g y).map .fp else none | _ => none) := by rw [frzG]; rfl
theorem frzG_agg {H : List Ob} {g : TV → Option TV} {cs : List TV} : frzG H g (.agg cs) = (frzGL H g cs).map .agg := by rw [frzG]
theorem frzG_tup {H : List Ob} {g : TV → Option TV} {cs : List TV} : frzG H g (.tup cs) = (frzGL H g cs).map .tup := by rw [frzG]
theorem frzG_ifc {H : List Ob} {g : TV → Option TV} {t : TypeId} {x : TV} : frzG H g (.ifc t x) = (frzG H g x).map (.ifc t) := by rw [frzG]
theorem frzGL_nil {H : List Ob} {g : TV → Option TV} : frzGL H g [] = some [] := by_refl rfl
theorem frzGL_cons {H : List Ob} {g : TV → Option TV} {x : TV} {xs : List TV} : frzGL H g (x :: xs) = (match frzG H g x, frzGL H g xs with | some x, some xs => some (x :: xs) | _, _ => none) := by rw [frzGL]; rfl
theorem frz_D {H : List Ob} {x : TV} : frz H x = frzG H (frzD H 2) x := by_refl rfl
theorem frzL_D {H : List Ob} {x : List TV} : frzL H x = frzGL H (frzD H 2) x := by_refl rfl
theorem frzD_s {H : List Ob} {d : Nat} {x : TV} : frzD H (d + 1) x = frzG H (frzD H d) x := by_refl rfl
theorem frs_val {H : List Ob} {v : Value} : frs H (.val v) = some (.val v) := by rw [frs]
theorem frs_any {H : List Ob} : frs H .any = some .any := by rw [frs]
theorem frs_os {H : List Ob} {k i v o n cp : Nat} {p : List (Nat × Nat)} : frs H (.os k i v p o n cp) = (match H[i]? with | some (.obj vr x) => if vr = v then (match elemsAt p k o n x with | some cs => if scalL cs then some (.sl k cs) else none | none => none) else none | _ => none) := by rw [frs]; try rfl
theorem frs_agg {H : List Ob} {cs : List TV} : frs H (.agg cs) = (frsL H cs).map .agg := by rw [frs]
theorem frs_arr {H : List Ob} {n k : Nat} {cs : List TV} : frs H (.arr n k cs) = if scalL cs then some (.arr n k cs) else none := by rw [frs]
theorem frs_tup {H : List Ob} {cs : List TV} : frs H (.tup cs) = (frsL H cs).map .tup := by rw [frs]
theorem frs_ifc {H : List Ob} {t : TypeId} {x : TV} : frs H (.ifc t x) = (frs H x).map (.ifc t) := by rw [frs]
theorem frsL_nil {H : List Ob} : frsL H [] = some [] := by rw [frsL]
theorem frsL_cons {H : List Ob} {x : TV} {xs : List TV} : frsL H (x :: xs) = (match frs H x, frsL H xs with | some x, some xs => some (x :: xs) | _, _ => none) := by rw [frsL]; try rfl
theorem scalL_by8 {l : List UInt8} : scalL (l.map by8) = true := by
 induction l with
 | nil => rfl
 | cons x l ih => rw [List.map_cons, scalL, ih]; rfl
theorem scalL_ts {l : List (List UInt8)} : scalL (l.map ts) = true := by
 induction l with
 | nil => rfl
 | cons x l ih => rw [List.map_cons, scalL, ih]; rfl
theorem map_set8 {l : List UInt8} {i : Nat} {b : UInt8} : (l.map by8).set i (.val (.int .u8 (b.toNat : Int))) = (l.set i b).map by8 := by rw [List.map_set]
theorem map_unby {l : List UInt8} : (l.map by8).map unby = l := by
 rw [List.map_map]
 have : (unby ∘ by8) = id := by funext b; simp
 rw [this, List.map_id]
theorem all_isBy {l : List UInt8} : (∀ y ∈ l.map by8, isBy y) = True := by simp
theorem cast_add {a b : Nat} : ((a : Int) + (b : Int)) = ((a + b : Nat) : Int) := by omega
theorem cast_lt {a b : Nat} : ((a : Int) < (b : Int)) = (a < b) := by simp
theorem cast_le {a b : Nat} : ((a : Int) ≤ (b : Int)) = (a ≤ b) := by simp
theorem cast_eq {a b : Nat} : ((a : Int) = (b : Int)) = (a = b) := propext ⟨fun h => by omega, fun h => by omega⟩
theorem cast_nn {a : Nat} : (0 ≤ (a : Int)) = True := by simp

theorem get_if {d s : Nat} {x : TV} : get ((d, x) :: e) s = if d = s then x else get e s := by_refl rfl
end
end Go.Proofs.YtfgljddikcghhaaDoor

namespace Go.Proofs.YtfgljddikcghhaaDoor
open Go.RowKit
variable [Globs]
set_option linter.unusedSectionVars false
set_option linter.unusedSimpArgs false
set_option linter.unusedVariables false
set_option autoImplicit false
universe u
set_option linter.defProp false

/-- (What it marks is not looked into by simp.) -/
class Tg {α : Sort u} (a : α) : Type where
instance tg {α : Sort u} (a : α) : Tg a := {}
def vif (t : Bool) (A B : Prop) [Tg A] [Tg B] : Prop := if t = true then A else B
def vget {α : Type} (o : Option α) (K : α → Prop) [Tg K] : Prop := match o with | some y => K y | none => False
def vand (A K : Prop) [Tg K] : Prop := A ∧ K
def vlet {α : Type} (x : α) (K : α → Prop) [Tg K] : Prop := K x
def vex (K : TV → Prop) [Tg K] : Prop := ∃ x, K x
def VC (P : Program) (f : FuncId) (xs : List TV) (H : List Ob) (K : TV → List Ob → Prop) [Tg K] : Prop := VCalls P f xs H K
def VY (P : Program) (id ver : Nat) (xs : List TV) (H : List Ob) (K : TV → List Ob → Prop) [Tg K] : Prop := VYield P id ver xs H K
section
variable {A A' B K : Prop} {α : Type}
@[congr] theorem vif_congr {t t' : Bool} (h : t = t') : vif t A B = vif t' A B := by rw [h]
@[congr] theorem vget_congr {o o' : Option α} {K : α → Prop} (h : o = o') : vget o K = vget o' K := by rw [h]
@[congr] theorem vand_congr (h : A = A') : vand A K = vand A' K := by rw [h]
@[congr] theorem vlet_congr {x x' : α} {K : α → Prop} (h : x = x') : vlet x K = vlet x' K := by rw [h]
@[congr] theorem vwp_congr {P : Program} {c : VCode} {Q : VEx → Env → List Ob → Prop} {e e' : Env} {H H' : List Ob} (he : e = e') (hH : H = H') : vwp P c Q e H = vwp P c Q e' H' := by rw [he, hH]
@[congr] theorem VC_congr {P : Program} {f : FuncId} {xs xs' : List TV} {H H' : List Ob} {K : TV → List Ob → Prop} (he : xs = xs') (hH : H = H') : VC P f xs H K = VC P f xs' H' K := by rw [he, hH]
@[congr] theorem VY_congr {P : Program} {id ver : Nat} {xs xs' : List TV} {H H' : List Ob} {K : TV → List Ob → Prop} (he : xs = xs') (hH : H = H') : VY P id ver xs H K = VY P id ver xs' H' K := by rw [he, hH]
theorem vif_true : vif true A B = A := by simp [vif]
theorem vif_false : vif false A B = B := by simp [vif]
theorem vif_dt {p : Prop} [Decidable p] (h : p) : vif (decide p) A B = A := by simp [vif, h]
theorem vif_df {p : Prop} [Decidable p] (h : ¬ p) : vif (decide p) A B = B := by simp [vif, h]
theorem vif_not {t : Bool} : vif (!t) A B = vif t B A := by cases t <;> simp [vif]
theorem vif_cases {p : Prop} [Decidable p] (h1 : p → A) (h2 : ¬ p → B) : vif (decide p) A B := by by_cases h : p <;> simp [vif, h, h1, h2]
theorem vif_and {s t : Bool} : vif (s && t) A B = vif s (vif t A B) B := by cases s <;> simp [vif]
theorem vif_or {s t : Bool} : vif (s || t) A B = vif s A (vif t A B) := by cases s <;> simp [vif]
theorem vget_some {y : α} {K : α → Prop} : vget (some y) K = K y := rfl
theorem vget_map {β : Type} {f : α → β} {o : Option α} {K : β → Prop} : vget (o.map f) K = vget o fun y => K (f y) := by cases o <;> rfl
theorem vget_at {cs : List α} {i : Nat} {K : α → Prop} (h : i < cs.length) : vget cs[i]? K = K cs[i] := by rw [List.getElem?_eq_getElem h]; rfl
theorem vand_true (h : A) : vand A K = K := by simp [vand, h]
theorem vand_T : vand True K = K := by simp [vand]
theorem vand_and : vand (A ∧ B) K = vand A (vand B K) := by simp [vand, and_assoc]
theorem vlet_is {x : α} {K : α → Prop} : vlet x K = K x := rfl
end

def obIn : Option Ob → Nat → Option TV
 | some (.obj v x), ver => if v = ver then some x else none
 | _, _ => none
theorem obIn_obj {v : Nat} {x : TV} : obIn (some (.obj v x)) v = some x := by simp [obIn]
section
variable {H l : List Ob} {o : Ob} {n k : Nat}
theorem ob_app (h : H.length = n) : (H ++ l)[n]? = l[0]? := by rw [List.getElem?_append_right (by omega), h, Nat.sub_self]
theorem ob_app1 (h : H.length = n) : (H ++ l)[n + k]? = l[k]? := by rw [List.getElem?_append_right (by omega)]; congr 1; omega
theorem ob_low (h : n < H.length) : (H ++ l)[n]? = H[n]? := List.getElem?_append_left h
theorem ob_set (h : n < H.length) : (H.set n o)[n]? = some o := by simp [h]
theorem ob_set_ne {m : Nat} (h : m ≠ n) : (H.set m o)[n]? = H[n]? := by rw [List.getElem?_set_ne h]
theorem obs_app (h : H.length = n) : (H ++ l).set n o = H ++ l.set 0 o := by rw [List.set_append_right _ _ (by omega), h, Nat.sub_self]
theorem obs_app1 (h : H.length = n) : (H ++ l).set (n + k) o = H ++ l.set k o := by rw [List.set_append_right _ _ (by omega)]; congr 2; omega
theorem obs_low (h : n < H.length) : (H ++ l).set n o = H.set n o ++ l := List.set_append_left _ _ h
end

section
variable {P : Program} {e : Env} {H : List Ob}
def Ppick (c a b : TV) (K : TV → Prop) [Tg K] : Prop := match c with | .val (.bool t) => K (if t then a else b) | _ => False
def Pbin (t : TypeId) (op : BinOp) (x y : TV) (K : TV → Prop) [Tg K] : Prop := match x, y with
  | .val u, .val v => calm u v = true ∧ (match binV t op u v with | some r => K (.val r) | none => False)
  | _, _ => False
def Pun (op : UnOp) (x : TV) (K : TV → Prop) [Tg K] : Prop := match x with
  | .val u => (match unV op u with | some r => K (.val r) | none => False)
  | _ => False
def Pconv (k : IntKind) (x : TV) (K : TV → Prop) [Tg K] : Prop := match x with
  | .val (.int _ n) => K (.val (.int k (k.wrap n)))
  | _ => False
def Ps2s (x : TV) (K : TV → Prop) [Tg K] : Prop := match x with
  | .val (.string s) => K (.val (.string s))
  | _ => False
def Pb2s (x : Option (List TV)) (K : TV → Prop) [Tg K] : Prop := match x with
  | some cs => (∀ y ∈ cs, isBy y) ∧ K (.val (.string (str (cs.map unby))))
  | none => False
def Pload (H : List Ob) (ag : Bool) (sz : Nat) (x : TV) (K : TV → Prop) [Tg K] : Prop := match x with
  | .fp y => ldOk ag sz y ∧ K y
  | .op id ver p => (match H[id]? with
   | some (.obj v x) => v = ver ∧ (match getP p x with | some y => ldOk ag sz y ∧ K y | none => False)
   | _ => False)
  | _ => False
def PfieldA (i off : Nat) (x : TV) (K : TV → Prop) [Tg K] : Prop := match x with
  | .op id ver p => K (.op id ver (p ++ [(i, off)]))
  | .fp (.agg cs) => widths (cs.take i) = off ∧ (match cs[i]? with | some y => K (.fp y) | none => False)
  | _ => False
def Pfield (ag : Bool) (sz i off : Nat) (x : TV) (K : TV → Prop) [Tg K] : Prop := match x with
  | .agg cs => widths (cs.take i) = off ∧ (match cs[i]? with | some y => ldOk ag sz y ∧ K y | none => False)
  | _ => False
def PidxA (k : Nat) (x i : TV) (K : TV → Prop) [Tg K] : Prop := match x, i with
  | .sl k' cs, .val (.int _ j) => k' = k ∧ 0 ≤ j ∧ (match cs[j.toNat]? with | some y => K (.fp y) | none => False)
  | .os k' id ver p off n cp, .val (.int _ j) => k' = k ∧ 0 ≤ j ∧ j < n ∧ K (.op id ver (p ++ [(off + j.toNat, (off + j.toNat) * k)]))
  | _, _ => False
def PidxAA (n k : Nat) (x i : TV) (K : TV → Prop) [Tg K] : Prop := match x, i with
  | .fp (.arr n' k' cs), .val (.int _ j) => k' = k ∧ n' = n ∧ 0 ≤ j ∧ (match cs[j.toNat]? with | some y => K (.fp y) | none => False)
  | .op id ver p, .val (.int _ j) => 0 ≤ j ∧ j < n ∧ K (.op id ver (p ++ [(j.toNat, j.toNat * k)]))
  | _, _ => False
def Pidx (ag : Bool) (n k : Nat) (x i : TV) (K : TV → Prop) [Tg K] : Prop := match x, i with
  | .arr n' k' cs, .val (.int _ j) => k' = k ∧ n' = n ∧ 0 ≤ j ∧ (match cs[j.toNat]? with | some y => ldOk ag k y ∧ K y | none => False)
  | _, _ => False
def PidxS (x i : TV) (K : TV → Prop) [Tg K] : Prop := match x, i with
  | .val (.string s), .val (.int _ j) => 0 ≤ j ∧ (match (bl s)[j.toNat]? with | some b => K (by8 b) | none => False)
  | _, _ => False
def Pext (i : Nat) (x : TV) (K : TV → Prop) [Tg K] : Prop := match x with
  | .tup xs => (match xs[i]? with | some y => K y | none => False)
  | _ => False
def PlenS (x : TV) (K : TV → Prop) [Tg K] : Prop := match x with
  | .val (.string s) => K (.val (.int .i64 (bl s).length))
  | _ => False
def PlenV (x : TV) (K : TV → Prop) [Tg K] : Prop := match x with
  | .val (.slice _ n _) => K (.val (.int .i64 n))
  | .sl _ cs => K (.val (.int .i64 cs.length))
  | .os _ _ _ _ _ n _ => K (.val (.int .i64 n))
  | _ => False
def bndV (lo hi : Option TV) (len lim : Nat) (K : Nat → Nat → Prop) [Tg K] : Prop :=
 match (match lo with | none => some 0 | some x => (match x with | .val (.int _ i) => some i | _ => none)), (match hi with | none => some (len : Int) | some x => (match x with | .val (.int _ i) => some i | _ => none)) with
 | some l, some h => (0 ≤ l ∧ l ≤ h ∧ h ≤ lim) ∧ K l.toNat h.toNat
 | _, _ => False
def evO (e : Env) : Option Opd → Option TV
 | none => none
 | some x => some (x.ev e)
theorem evO_none : evO e none = none := by_refl rfl
theorem evO_some {x : Opd} : evO e (some x) = some (x.ev e) := by_refl rfl
theorem bnd_is {lo hi : Option Opd} {len lim : Nat} {K : Nat → Nat → Prop} : bnd e lo hi len lim K = bndV (evO e lo) (evO e hi) len lim K := by
 cases lo <;> cases hi <;> rfl
def PslS (x : TV) (lo hi : Option TV) (K : TV → Prop) [Tg K] : Prop := match x with
  | .val (.string s) => bndV lo hi (bl s).length (bl s).length fun l h => K (.val (.string (str (((bl s).drop l).take (h - l)))))
  | _ => False
def PslV (k : Nat) (x : TV) (lo hi : Option TV) (K : TV → Prop) [Tg K] : Prop := match x with
  | .sl k' cs => k' = k ∧ bndV lo hi cs.length cs.length fun l h => K (.sl k ((cs.drop l).take (h - l)))
  | .os k' id ver p off n cp => k' = k ∧ bndV lo hi n cp fun l h => K (.os k id ver p (off + l) (h - l) (cp - l))
  | .val (.slice ad 0 0) => bndV lo hi 0 0 fun l h => K (.val (.slice ad 0 0))
  | _ => False
def PslA (H : List Ob) (n k : Nat) (x : TV) (lo hi : Option TV) (K : TV → Prop) [Tg K] : Prop := match x with
  | .fp (.arr n' k' cs) => k' = k ∧ n' = n ∧ n ≤ 9223372036854775807 ∧ bndV lo hi n n fun l h => K (.sl k ((cs.drop l).take (h - l)))
  | .op id ver p => (match H[id]? with
   | some (.obj v x) => v = ver ∧ n ≤ 9223372036854775807 ∧ (match getP p x with | some (.arr n' k' cs) => k' = k ∧ n' = n ∧ bndV lo hi n n fun l h => K (.os k id ver p l (h - l) (n - l)) | _ => False)
   | _ => False)
  | _ => False
def Piface (t : TypeId) (x : TV) (K : TV → Prop) [Tg K] : Prop := lays x = true ∧ K (.ifc t x)
def Pmkf (f : Fn) (first caps : List TV) (K : TV → Prop) [Tg K] : Prop := (∀ x ∈ first ++ caps, isTup x = false) ∧ K (.fn f first caps)
def Pnilc (x : TV) (K : TV → Prop) [Tg K] : Prop := match x with
  | .op id ver p => K (.op id ver p)
  | .fp y => K (.fp y)
  | .fn (.func f) a b => K (.fn (.func f) a b)
  | .ifc t y => K (.ifc t y)
  | .val (.func (.func f) a b) => K (.val (.func (.func f) a b))
  | _ => False
def Pmin (x y : TV) (K : TV → Prop) [Tg K] : Prop := match x, y with
  | .val (.int k a), .val (.int _ b) => K (.val (.int k (if b < a then b else a)))
  | _, _ => False
def Pmax (x y : TV) (K : TV → Prop) [Tg K] : Prop := match x, y with
  | .val (.int k a), .val (.int _ b) => K (.val (.int k (if b > a then b else a)))
  | _, _ => False
def Pgen (g : GOp) (H : List Ob) (xs : List TV) (K : TV → Prop) [Tg K] : Prop := match gev g H xs with
  | some y => K y
  | none => False
def PeqB (neg : Bool) (x y : TV) (K : TV → Prop) [Tg K] : Prop := match x, y with
  | .val (.bool a), .val (.bool b) => K (.val (.bool (xor neg (a == b))))
  | _, _ => False
def PeqN (neg : Bool) (x y : Option Bool) (K : TV → Prop) [Tg K] : Prop := match x, y with
  | some true, some b => K (.val (.bool (xor neg b)))
  | some false, some true => K (.val (.bool (xor neg false)))
  | _, _ => False
def Sstore (H : List Ob) (sz : Nat) (x v : TV) (K : TV → List Ob → Prop) [Tg K] : Prop := (lays v = true ∧ width v = sz) ∧ (match x with
  | .op id ver p => (match H[id]? with
   | some (.obj vr y) => vr = ver ∧ (match setP p y v with | some y' => K .any (H.set id (.obj ver y')) | none => False)
   | _ => False)
  | _ => False)
def Smks (H : List Ob) (k bytes : Nat) (z l c : TV) (K : TV → List Ob → Prop) [Tg K] : Prop := match l, c with
  | .val (.int _ l), .val (.int _ c) => (0 ≤ l ∧ l ≤ c ∧ (bytes : Int) * c ≤ 281474976710656 ∧ c ≤ 9223372036854775807) ∧ K (.os k H.length 0 [] 0 l.toNat c.toNat) (H ++ [.obj 0 (.arr c.toNat k (List.replicate c.toNat z))])
  | _, _ => False
def Sapp (k bytes : Nat) (et : TypeId) (x : TV) (y : Option (List TV)) (H : List Ob) (K : TV → List Ob → Prop) [Tg K] : Prop := match y with
  | some ys => appTo k bytes et x ys H K
  | none => False
def Scopy (k : Nat) (x : TV) (y : Option (List TV)) (H : List Ob) (K : TV → List Ob → Prop) [Tg K] : Prop := match y with
  | some ys => copyTo k x ys H K
  | none => False
def SappS (et : TypeId) (x y : TV) (H : List Ob) (K : TV → List Ob → Prop) [Tg K] : Prop := match y with
  | .val (.string s) => appTo 1 1 et x ((bl s).map by8) H K
  | _ => False
def ScopyS (x y : TV) (H : List Ob) (K : TV → List Ob → Prop) [Tg K] : Prop := match y with
  | .val (.string s) => copyTo 1 x ((bl s).map by8) H K
  | _ => False
def Sbstr (P : Program) (f : FuncId) (x : Option (Nat × Nat × List UInt8)) (H : List Ob) (K : TV → List Ob → Prop) [Tg K] : Prop := BStr P f ∧ (match x with
  | some (j, v, l) => l.length ≤ 9223372036854775807 ∧ K (.val (.string (str l))) (H.set j (.gone v))
  | none => False)
def Ss2b (H : List Ob) (x : TV) (K : TV → List Ob → Prop) [Tg K] : Prop := match x with
  | .val (.string s) => (bl s).length ≤ 9223372036854775807 ∧ K (.os 1 H.length 0 [] 0 (bl s).length (bl s).length) (H ++ [.obj 0 (.arr (bl s).length 1 ((bl s).map by8))])
  | _ => False
def Scallv (P : Program) (x : TV) (args : List TV) (H : List Ob) (K : TV → List Ob → Prop) [Tg K] : Prop := match x with
  | .fn (.func f) first caps => isGo P f = true ∧ VCalls P f (first ++ args ++ caps) H K
  | .val (.func (.func f) xs ys) => (xs.isEmpty && ys.isEmpty) = true ∧ isGo P f = true ∧ VCalls P f args H K
  | .yl id ver => VYield P id ver args H K
  | _ => False
def Gd (q : Option Bool) (b : Bool) (A B : Prop) [Tg A] [Tg B] : Prop := match q with
 | some t => if t = b then A else B
 | none => B
def evs (e : Env) (xs : List Opd) : List TV := xs.map (·.ev e)
theorem evs_nil : evs e [] = [] := by_refl rfl
theorem evs_cons {x : Opd} {xs : List Opd} : evs e (x :: xs) = x.ev e :: evs e xs := by_refl rfl
def noTup (xs : List TV) : Prop := ∀ x ∈ xs, isTup x = false
theorem noTup_nil : noTup [] = True := by simp [noTup]
theorem noTup_cons {x : TV} {xs : List TV} : noTup (x :: xs) = (isTup x = false ∧ noTup xs) := by simp [noTup]
theorem noTup_of {args : List Opd} : (∀ x ∈ args, isTup (x.ev e) = false) = noTup (evs e args) := by simp [noTup, evs]

section
variable {c c' a a' b b' x x' y y' : TV} {K : TV → Prop} {KK : TV → List Ob → Prop} {lo lo' hi hi' : Option TV} {ox ox' : Option (List TV)} {q q' q2 q2' : Option Bool} {xs xs' : List TV} {A B : Prop} {H' : List Ob}
@[congr] theorem Ppick_c (h1 : c = c') (h2 : a = a') (h3 : b = b') : Ppick c a b K = Ppick c' a' b' K := by rw [h1, h2, h3]
@[congr] theorem Pbin_c {t : TypeId} {op : BinOp} (h1 : x = x') (h2 : y = y') : Pbin t op x y K = Pbin t op x' y' K := by rw [h1, h2]
@[congr] theorem Pun_c {op : UnOp} (h1 : x = x') : Pun op x K = Pun op x' K := by rw [h1]
@[congr] theorem Pconv_c {k : IntKind} (h1 : x = x') : Pconv k x K = Pconv k x' K := by rw [h1]
@[congr] theorem Ps2s_c (h1 : x = x') : Ps2s x K = Ps2s x' K := by rw [h1]
@[congr] theorem Pb2s_c (h1 : ox = ox') : Pb2s ox K = Pb2s ox' K := by rw [h1]
@[congr] theorem Pload_c {ag : Bool} {sz : Nat} (h1 : x = x') (h2 : H = H') : Pload H ag sz x K = Pload H' ag sz x' K := by rw [h1, h2]
@[congr] theorem PfieldA_c {i o : Nat} (h1 : x = x') : PfieldA i o x K = PfieldA i o x' K := by rw [h1]
@[congr] theorem Pfield_c {ag : Bool} {sz i o : Nat} (h1 : x = x') : Pfield ag sz i o x K = Pfield ag sz i o x' K := by rw [h1]
@[congr] theorem PidxA_c {k : Nat} (h1 : x = x') (h2 : y = y') : PidxA k x y K = PidxA k x' y' K := by rw [h1, h2]
@[congr] theorem PidxAA_c {n k : Nat} (h1 : x = x') (h2 : y = y') : PidxAA n k x y K = PidxAA n k x' y' K := by rw [h1, h2]
@[congr] theorem Pidx_c {ag : Bool} {n k : Nat} (h1 : x = x') (h2 : y = y') : Pidx ag n k x y K = Pidx ag n k x' y' K := by rw [h1, h2]
@[congr] theorem PidxS_c (h1 : x = x') (h2 : y = y') : PidxS x y K = PidxS x' y' K := by rw [h1, h2]
@[congr] theorem Pext_c {i : Nat} (h1 : x = x') : Pext i x K = Pext i x' K := by rw [h1]
@[congr] theorem PlenS_c (h1 : x = x') : PlenS x K = PlenS x' K := by rw [h1]
@[congr] theorem PlenV_c (h1 : x = x') : PlenV x K = PlenV x' K := by rw [h1]
@[congr] theorem bndV_c {n m : Nat} {K : Nat → Nat → Prop} {n' m' : Nat} (h1 : lo = lo') (h2 : hi = hi') (h3 : n = n') (h4 : m = m') : bndV lo hi n m K = bndV lo' hi' n' m' K := by rw [h1, h2, h3, h4]
@[congr] theorem PslS_c (h1 : x = x') (h2 : lo = lo') (h3 : hi = hi') : PslS x lo hi K = PslS x' lo' hi' K := by rw [h1, h2, h3]
@[congr] theorem PslV_c {k : Nat} (h1 : x = x') (h2 : lo = lo') (h3 : hi = hi') : PslV k x lo hi K = PslV k x' lo' hi' K := by rw [h1, h2, h3]
@[congr] theorem PslA_c {n k : Nat} (h0 : H = H') (h1 : x = x') (h2 : lo = lo') (h3 : hi = hi') : PslA H n k x lo hi K = PslA H' n k x' lo' hi' K := by rw [h0, h1, h2, h3]
@[congr] theorem Piface_c {t : TypeId} (h1 : x = x') : Piface t x K = Piface t x' K := by rw [h1]
@[congr] theorem Pmkf_c {f : Fn} {ys ys' : List TV} (h1 : xs = xs') (h2 : ys = ys') : Pmkf f xs ys K = Pmkf f xs' ys' K := by rw [h1, h2]
@[congr] theorem Pnilc_c (h1 : x = x') : Pnilc x K = Pnilc x' K := by rw [h1]
@[congr] theorem Pmin_c (h1 : x = x') (h2 : y = y') : Pmin x y K = Pmin x' y' K := by rw [h1, h2]
@[congr] theorem Pmax_c (h1 : x = x') (h2 : y = y') : Pmax x y K = Pmax x' y' K := by rw [h1, h2]
@[congr] theorem Pgen_c {g : GOp} {xs xs' : List TV} (h1 : H = H') (h2 : xs = xs') : Pgen g H xs K = Pgen g H' xs' K := by rw [h1, h2]
@[congr] theorem PeqB_c {n : Bool} (h1 : x = x') (h2 : y = y') : PeqB n x y K = PeqB n x' y' K := by rw [h1, h2]
@[congr] theorem PeqN_c {n : Bool} (h1 : q = q') (h2 : q2 = q2') : PeqN n q q2 K = PeqN n q' q2' K := by rw [h1, h2]
@[congr] theorem Sstore_c {sz : Nat} (h0 : H = H') (h1 : x = x') (h2 : y = y') : Sstore H sz x y KK = Sstore H' sz x' y' KK := by rw [h0, h1, h2]
@[congr] theorem Smks_c {k n : Nat} {z : TV} (h0 : H = H') (h1 : x = x') (h2 : y = y') : Smks H k n z x y KK = Smks H' k n z x' y' KK := by rw [h0, h1, h2]
@[congr] theorem Sapp_c {k n : Nat} {et : TypeId} (h0 : H = H') (h1 : x = x') (h2 : ox = ox') : Sapp k n et x ox H KK = Sapp k n et x' ox' H' KK := by rw [h0, h1, h2]
@[congr] theorem Scopy_c {k : Nat} (h0 : H = H') (h1 : x = x') (h2 : ox = ox') : Scopy k x ox H KK = Scopy k x' ox' H' KK := by rw [h0, h1, h2]
@[congr] theorem SappS_c {et : TypeId} (h0 : H = H') (h1 : x = x') (h2 : y = y') : SappS et x y H KK = SappS et x' y' H' KK := by rw [h0, h1, h2]
@[congr] theorem ScopyS_c (h0 : H = H') (h1 : x = x') (h2 : y = y') : ScopyS x y H KK = ScopyS x' y' H' KK := by rw [h0, h1, h2]
@[congr] theorem Sbstr_c {P : Program} {f : FuncId} {r r' : Option (Nat × Nat × List UInt8)} (h0 : H = H') (h1 : r = r') : Sbstr P f r H KK = Sbstr P f r' H' KK := by rw [h0, h1]
@[congr] theorem Ss2b_c (h0 : H = H') (h1 : x = x') : Ss2b H x KK = Ss2b H' x' KK := by rw [h0, h1]
@[congr] theorem Scallv_c (h0 : H = H') (h1 : x = x') (h2 : xs = xs') : Scallv P x xs H KK = Scallv P x' xs' H' KK := by rw [h0, h1, h2]
@[congr] theorem Gd_c {b : Bool} (h1 : q = q') : Gd q b A B = Gd q' b A B := by rw [h1]
end

section
variable {K : TV → Prop} {KK : TV → List Ob → Prop} {x y i a b c : Opd} {lo hi : Option Opd}
theorem r_mov : pop (.mov x) e H K = vlet (x.ev e) K := by_refl rfl
theorem r_pick : pop (.pick c a b) e H K = Ppick (c.ev e) (a.ev e) (b.ev e) K := by_refl rfl
theorem r_bin {t : TypeId} {op : BinOp} : pop (.bin t op x y) e H K = Pbin t op (x.ev e) (y.ev e) K := by_refl rfl
theorem r_un {op : UnOp} : pop (.un op x) e H K = Pun op (x.ev e) K := by_refl rfl
theorem r_conv {k : IntKind} : pop (.conv k x) e H K = Pconv k (x.ev e) K := by_refl rfl
theorem r_s2s : pop (.s2s x) e H K = Ps2s (x.ev e) K := by_refl rfl
theorem r_b2s : pop (.b2s x) e H K = Pb2s (elemsOf H 1 (x.ev e)) K := by_refl rfl
theorem r_load {ag : Bool} {sz : Nat} : pop (.load ag sz x) e H K = Pload H ag sz (x.ev e) K := by_refl rfl
theorem r_fieldA {n o : Nat} : pop (.fieldA n o x) e H K = PfieldA n o (x.ev e) K := by_refl rfl
theorem r_field {ag : Bool} {sz n o : Nat} : pop (.field ag sz n o x) e H K = Pfield ag sz n o (x.ev e) K := by_refl rfl
theorem r_idxA {k : Nat} : pop (.idxA k x i) e H K = PidxA k (x.ev e) (i.ev e) K := by_refl rfl
theorem r_idxAA {n k : Nat} : pop (.idxAA n k x i) e H K = PidxAA n k (x.ev e) (i.ev e) K := by_refl rfl
theorem r_idx {ag : Bool} {n k : Nat} : pop (.idx ag n k x i) e H K = Pidx ag n k (x.ev e) (i.ev e) K := by_refl rfl
theorem r_idxS : pop (.idxS x i) e H K = PidxS (x.ev e) (i.ev e) K := by_refl rfl
theorem r_ext {n : Nat} : pop (.ext n x) e H K = Pext n (x.ev e) K := by_refl rfl
theorem r_lenS : pop (.lenS x) e H K = PlenS (x.ev e) K := by_refl rfl
theorem r_lenV : pop (.lenV x) e H K = PlenV (x.ev e) K := by_refl rfl
theorem r_slS : pop (.slS x lo hi) e H K = PslS (x.ev e) (evO e lo) (evO e hi) K := by
 show (match x.ev e with | .val (.string s) => bnd e lo hi (bl s).length (bl s).length fun l h => K (.val (.string (str (((bl s).drop l).take (h - l))))) | _ => False) = _
 simp only [bnd_is]; rfl
theorem r_slV {k : Nat} : pop (.slV k x lo hi) e H K = PslV k (x.ev e) (evO e lo) (evO e hi) K := by
 rw [p_slV]; simp only [bnd_is]; rfl
theorem r_slA {n k : Nat} : pop (.slA n k x lo hi) e H K = PslA H n k (x.ev e) (evO e lo) (evO e hi) K := by
 rw [p_slA]; simp only [bnd_is]; rfl
theorem r_iface {t : TypeId} : pop (.iface t x) e H K = Piface t (x.ev e) K := by_refl rfl
theorem r_mkf {f : Fn} {xs ys : List Opd} : pop (.mkf f xs ys) e H K = Pmkf f (evs e xs) (evs e ys) K := by
 rw [p_mkf]; unfold Pmkf evs; rw [← List.map_append]
 refine congrArg (· ∧ _) (propext ⟨fun h y hy => ?_, fun h y hy => h _ (List.mem_map.2 ⟨y, hy, rfl⟩)⟩)
 obtain ⟨z, hz, rfl⟩ := List.mem_map.1 hy; exact h z hz
theorem r_nilc : pop (.nilc x) e H K = Pnilc (x.ev e) K := by_refl rfl
theorem r_min : pop (.min x y) e H K = Pmin (x.ev e) (y.ev e) K := by_refl rfl
theorem r_max : pop (.max x y) e H K = Pmax (x.ev e) (y.ev e) K := by_refl rfl
theorem r_gen {g : GOp} {xs : List Opd} : pop (.gen g xs) e H K = Pgen g H (evs e xs) K := by_refl rfl
theorem r_eqB {n : Bool} : pop (.eqB x y n) e H K = PeqB n (x.ev e) (y.ev e) K := by_refl rfl
theorem r_eqN {kd : Nat} {n : Bool} : pop (.eqN kd x y n) e H K = PeqN n (ptrNil kd (x.ev e)) (ptrNil kd (y.ev e)) K := by_refl rfl
theorem r_build {zs : List TV} {szs : List Nat} {ps : List (Nat × Opd)} : pop (.build zs szs ps) e H K = vand (fillsOk e szs ps) (vlet (TV.agg (fills e zs ps)) K) := by_refl rfl
theorem r_buildA {n k : Nat} {zs : List TV} {ps : List (Nat × Opd)} : pop (.buildA n k zs ps) e H K = vand (fillsOk e (List.replicate n k) ps) (vand (fillsPure e ps) (vlet (TV.arr n k (fills e zs ps)) K)) := by_refl rfl
theorem s_alloc {z : TV} : sop P (.alloc z) e H KK = vlet (H.length) fun n => vlet (H ++ [.obj 0 z]) fun H' => KK (.op n 0 []) H' := by_refl rfl
theorem s_allocT {z : TV} {t : TypeId} : sop P (.allocT z t) e H KK = vlet (H.length) fun n => vlet (width z) fun m => vlet (H ++ [.obj 0 z, .fact n 0 t m]) fun H' => KK (.op n 0 []) H' := by_refl rfl
theorem s_boxT {t : TypeId} : sop P (.boxT x t) e H KK = vlet (x.ev e) fun v => vand (lays v = true) (vlet (H.length) fun n => vlet (width v) fun m => vlet (H ++ [.obj 0 v, .fact n 0 t m]) fun H' => KK (.op n 0 []) H') := by_refl rfl
theorem s_bstr {f : FuncId} : sop P (.bstr f x) e H KK = Sbstr P f (rowOf H (x.ev e)) H KK := by_refl rfl
def SrngS (x : TV) (H : List Ob) (K : TV → List Ob → Prop) [Tg K] : Prop := match x with
 | .val (.string s) => K (.op H.length 0 []) (H ++ [.sit (bl s) 0])
 | _ => False
@[congr] theorem SrngS_c {x x' : TV} {H' : List Ob} (h1 : x = x') (h2 : H = H') : SrngS x H KK = SrngS x' H' KK := by rw [h1, h2]
theorem s_rngS : sop P (.rngS x) e H KK = SrngS (x.ev e) H KK := by_refl rfl
theorem SrngS_is {s : ByteArray} : SrngS (.val (.string s)) H KK = vlet H.length fun n => vlet (H ++ [.sit (bl s) 0]) fun H' => KK (.op n 0 []) H' := by_refl rfl
def sitIn : Option Ob → Option (List UInt8 × Nat)
 | some (.sit s pos) => some (s, pos)
 | _ => none
theorem sitIn_is {s : List UInt8} {pos : Nat} : sitIn (some (.sit s pos)) = some (s, pos) := by_refl rfl
def SnxtS (x : TV) (H : List Ob) (K : TV → List Ob → Prop) [Tg K] : Prop := match x with
 | .op id 0 [] => (match H[id]? with
  | some (.sit s pos) => if pos < s.length then K (.tup [.val (.bool true), .val (.int .i64 (pos : Int)), .val (.int .i32 ((Utf8.decode (str s) pos).1 : Int))]) (H.set id (.sit s (pos + (Utf8.decode (str s) pos).2))) else K (.tup [.val (.bool false)]) H
  | _ => False)
 | _ => False
@[congr] theorem SnxtS_c {x x' : TV} {H' : List Ob} (h1 : x = x') (h2 : H = H') : SnxtS x H KK = SnxtS x' H' KK := by rw [h1, h2]
theorem s_nxtS : sop P (.nxtS x) e H KK = SnxtS (x.ev e) H KK := by_refl rfl
theorem SnxtS_is {id : Nat} : SnxtS (.op id 0 []) H KK = vget (sitIn H[id]?) fun p => vif (decide (p.2 < p.1.length))
  (vlet (H.set id (.sit p.1 (p.2 + (Utf8.decode (str p.1) p.2).2))) fun H' => KK (.tup [.val (.bool true), .val (.int .i64 (p.2 : Int)), .val (.int .i32 ((Utf8.decode (str p.1) p.2).1 : Int))]) H') (KK (.tup [.val (.bool false)]) H) := by
 unfold SnxtS
 cases h : H[id]? with
 | none => simp [sitIn, vget, h]
 | some o =>
  cases o with
  | sit s pos => simp only [h, sitIn, vget, vlet]; by_cases hp : pos < s.length <;> simp [vif, hp]
  | _ => simp [sitIn, vget, h]
theorem s_box : sop P (.box x) e H KK = vlet (x.ev e) fun v => vand (lays v = true) (vlet (H.length) fun n => vlet (H ++ [.obj 0 v]) fun H' => KK (.op n 0 []) H') := by_refl rfl
theorem s_bslice {k n : Nat} {z : TV} {ps : List (Nat × Opd)} : sop P (.bslice k n z ps) e H KK = vand (fillsOk e (List.replicate n k) ps) (vand (fillsPure e ps ∧ n ≤ 1000) (vlet H.length fun m => vlet (H ++ [.obj 0 (.arr n k (fills e (List.replicate n z) ps))]) fun H' => KK (.os k m 0 [] 0 n n) H')) := by
 rw [q_bslice]; simp only [vand, vlet, and_assoc]
/-- Maps. -/
def mapIn (kk : MK) : Option Ob → Option (List (List UInt8 × TV))
 | some (.mpo kk' es) => if kk' = kk then some es else none
 | _ => none
theorem mapIn_is {kk : MK} {es : List (List UInt8 × TV)} : mapIn kk (some (.mpo kk es)) = some es := by simp [mapIn]
theorem kB_str {l : List UInt8} : kBytes .str (.val (.string (str l))) = some l := by simp [kBytes, bl, str]
theorem kB_arr {n : Nat} {l : List UInt8} : kBytes (.arr n) (.arr n 1 (l.map by8)) = some l := by
 unfold kBytes; simp only [isByB_all, unby_all, and_self, if_true]
theorem lookT_f {z : TV} {r : Option TV} : lookT z false r = r.getD z := by simp [lookT]
theorem lookT_t {z : TV} {r : Option TV} : lookT z true r = .tup [r.getD z, .val (.bool r.isSome)] := by simp [lookT]
def Smkm (x : TV) (A : Prop) [Tg A] : Prop := match x with
 | .val (.int _ _) => A
 | _ => False
@[congr] theorem Smkm_c {x x' : TV} {A : Prop} (h : x = x') : Smkm x A = Smkm x' A := by rw [h]
theorem Smkm_is {q : IntKind} {n : Int} {A : Prop} : Smkm (.val (.int q n)) A = A := by simp [Smkm]
theorem s_mkm0 {kk : MK} : sop P (.mkm kk none) e H KK = vlet H.length fun n => vlet (H ++ [.mpo kk []]) fun H' => KK (.mp n 0) H' := by simp [sop, vlet]
theorem s_mkm1 {kk : MK} : sop P (.mkm kk (some x)) e H KK = Smkm (x.ev e) (vlet H.length fun n => vlet (H ++ [.mpo kk []]) fun H' => KK (.mp n 0) H') := by
 simp only [sop, vlet, Smkm]
 cases x.ev e with
 | val v => cases v <;> simp
 | _ => simp
def Smupd (kk : MK) (m k v : TV) (H : List Ob) (K : TV → List Ob → Prop) [Tg K] : Prop := match m, kBytes kk k with
 | .mp id 0, some kb => (match H[id]? with
  | some (.mpo kk' es) => (kk' = kk ∧ lays v = true) ∧ K .any (H.set id (.mpo kk (mput kb v es)))
  | _ => False)
 | _, _ => False
@[congr] theorem Smupd_c {kk : MK} {H' : List Ob} {m m' k k' v v' : TV} (h1 : m = m') (h2 : k = k') (h3 : v = v') (h4 : H = H') : Smupd kk m k v H KK = Smupd kk m' k' v' H' KK := by rw [h1, h2, h3, h4]
theorem s_mupd {kk : MK} {m k : Opd} : sop P (.mupd kk m k x) e H KK = Smupd kk (m.ev e) (k.ev e) (x.ev e) H KK := by_refl rfl
def Sment (kk : MK) (z m k : TV) (H : List Ob) (K : TV → List Ob → Prop) [Tg K] : Prop := match m, kBytes kk k with
 | .mp id 0, some kb => (match H[id]? with
  | some (.mpo kk' es) => kk' = kk ∧ K (.tup [(mget kb es).getD z, .val (.int .i64 (mpos kb es))]) (H.set id (.mpo kk (mput kb ((mget kb es).getD z) es)))
  | _ => False)
 | _, _ => False
@[congr] theorem Sment_c {kk : MK} {H' : List Ob} {z m m' k k' : TV} (h1 : m = m') (h2 : k = k') (h4 : H = H') : Sment kk z m k H KK = Sment kk z m' k' H' KK := by rw [h1, h2, h4]
theorem s_ment {kk : MK} {z : TV} {m k : Opd} : sop P (.ment kk z m k) e H KK = Sment kk z (m.ev e) (k.ev e) H KK := by_refl rfl
def Smest (m st v : TV) (H : List Ob) (K : TV → List Ob → Prop) [Tg K] : Prop := match m, st with
 | .mp id 0, .val (.int _ j) => (match H[id]? with
  | some (.mpo kk es) => (0 ≤ j ∧ lays v = true) ∧ (match es[j.toNat]? with
   | some (k, _) => K .any (H.set id (.mpo kk (es.set j.toNat (k, v))))
   | none => False)
  | _ => False)
 | _, _ => False
@[congr] theorem Smest_c {H' : List Ob} {m m' st st' v v' : TV} (h1 : m = m') (h2 : st = st') (h3 : v = v') (h4 : H = H') : Smest m st v H KK = Smest m' st' v' H' KK := by rw [h1, h2, h3, h4]
theorem s_mest {m st : Opd} : sop P (.mest m st x) e H KK = Smest (m.ev e) (st.ev e) (x.ev e) H KK := by_refl rfl
theorem s_store {sz : Nat} : sop P (.store sz x y) e H KK = Sstore H sz (x.ev e) (y.ev e) KK := by_refl rfl
theorem s_mks {k n : Nat} {z : TV} : sop P (.mks k n z x y) e H KK = Smks H k n z (x.ev e) (y.ev e) KK := by_refl rfl
theorem s_app {k n : Nat} {et : TypeId} : sop P (.app k n et x y) e H KK = Sapp k n et (x.ev e) (elemsOf H k (y.ev e)) H KK := by_refl rfl
theorem s_appS {et : TypeId} : sop P (.appS et x y) e H KK = SappS et (x.ev e) (y.ev e) H KK := by_refl rfl
theorem s_copy {k : Nat} : sop P (.copy k x y) e H KK = Scopy k (x.ev e) (elemsOf H k (y.ev e)) H KK := by_refl rfl
theorem s_copyS : sop P (.copyS x y) e H KK = ScopyS (x.ev e) (y.ev e) H KK := by_refl rfl
theorem s_s2b : sop P (.s2b x) e H KK = Ss2b H (x.ev e) KK := by_refl rfl
theorem s_call {f : FuncId} {args : List Opd} : sop P (.call f args) e H KK = vlet (evs e args) fun xs => vand (noTup xs) (VC P f xs H KK) := by
 rw [q_call, noTup_of]; rfl
theorem s_callv {args : List Opd} : sop P (.callv x args) e H KK = vlet (evs e args) fun xs => vand (noTup xs) (Scallv P (x.ev e) xs H KK) := by
 rw [q_callv, noTup_of]; rfl
end

section
variable {K : TV → Prop} {KK : TV → List Ob → Prop} {x y : TV} {cs ys : List TV} {n n' k k' : Nat} {id ver off cp : Nat} {p : List (Nat × Nat)} {j : Int} {q : IntKind} {lo hi : Option TV}
theorem Ppick_is {t : Bool} : Ppick (.val (.bool t)) x y K = vif t (K x) (K y) := by cases t <;> simp [Ppick, vif]
theorem Pbin_is {t : TypeId} {op : BinOp} {u v : Value} : Pbin t op (.val u) (.val v) K = vand (calm u v = true) (vget (binV t op u v) fun r => vlet (TV.val r) K) := by
 show (_ ∧ _) = _; cases binV t op u v <;> rfl
theorem Pun_is {op : UnOp} {u : Value} : Pun op (.val u) K = vget (unV op u) fun r => vlet (TV.val r) K := by
 unfold Pun; simp only; cases unV op u <;> rfl
theorem Pconv_is {k : IntKind} : Pconv k (.val (.int q j)) K = vlet (TV.val (.int k (k.wrap j))) K := by_refl rfl
theorem Ps2s_is {s : ByteArray} : Ps2s (.val (.string s)) K = K (.val (.string s)) := by_refl rfl
theorem Pb2s_is : Pb2s (some cs) K = vand (∀ y ∈ cs, isBy y) (vlet (TV.val (.string (str (cs.map unby)))) K) := by_refl rfl
theorem Pload_fp {ag : Bool} {sz : Nat} : Pload H ag sz (.fp y) K = vand (ldOk ag sz y) (K y) := by_refl rfl
theorem Pload_op {ag : Bool} {sz : Nat} : Pload H ag sz (.op id ver p) K = vget (obIn H[id]? ver) fun x => vget (getP p x) fun y => vand (ldOk ag sz y) (K y) := by
 unfold Pload
 simp only
 cases h : H[id]? with
 | none => simp [obIn, vget]
 | some o =>
  cases o with
  | gone v => simp [obIn, vget]
  | ice v m y => simp [obIn, vget]
  | fact i v t m => simp [obIn, vget]
  | bld v t l => simp [obIn, vget]
  | lp st pe fn N en ps ca cb => simp [obIn, vget]
  | mpo kk es => simp [obIn, vget]
  | sit s pos => simp [obIn, vget]
  | obj v x =>
   by_cases hv : v = ver
   ·subst hv; simp only [obIn, vget, vand, if_true, true_and]; cases getP p x <;> rfl
   ·simp [obIn, vget, hv]
theorem PfieldA_op {i o : Nat} : PfieldA i o (.op id ver p) K = vlet (p ++ [(i, o)]) fun p => K (.op id ver p) := by_refl rfl
theorem PfieldA_fp {i o : Nat} : PfieldA i o (.fp (.agg cs)) K = vand (widths (cs.take i) = o) (vget cs[i]? fun y => K (.fp y)) := by
 unfold PfieldA; simp only; cases cs[i]? <;> rfl
theorem Pfield_is {ag : Bool} {sz i o : Nat} : Pfield ag sz i o (.agg cs) K = vand (widths (cs.take i) = o) (vget cs[i]? fun y => vand (ldOk ag sz y) (K y)) := by
 unfold Pfield; simp only; cases cs[i]? <;> rfl
theorem PidxA_sl : PidxA k (.sl k cs) (.val (.int q j)) K = vand (0 ≤ j) (vget cs[j.toNat]? fun y => K (.fp y)) := by
 unfold PidxA; simp only [true_and]; cases cs[j.toNat]? <;> rfl
theorem PidxA_os : PidxA k (.os k id ver p off n cp) (.val (.int q j)) K = vand (0 ≤ j ∧ j < n) (vlet (off + j.toNat) fun m => vlet (p ++ [(m, m * k)]) fun p => K (.op id ver p)) := by
 show (k = k ∧ _) = _; simp [vand, vlet, and_assoc]
theorem PidxAA_fp : PidxAA n k (.fp (.arr n k cs)) (.val (.int q j)) K = vand (0 ≤ j) (vget cs[j.toNat]? fun y => K (.fp y)) := by
 unfold PidxAA; simp only [true_and]; cases cs[j.toNat]? <;> rfl
theorem PidxAA_op : PidxAA n k (.op id ver p) (.val (.int q j)) K = vand (0 ≤ j ∧ j < n) (vlet j.toNat fun m => vlet (p ++ [(m, m * k)]) fun p => K (.op id ver p)) := by
 show (_ ∧ _) = _; simp [vand, vlet, and_assoc]
theorem Pidx_is {ag : Bool} : Pidx ag n k (.arr n k cs) (.val (.int q j)) K = vand (0 ≤ j) (vget cs[j.toNat]? fun y => vand (ldOk ag k y) (K y)) := by
 unfold Pidx; simp only [true_and]; cases cs[j.toNat]? <;> rfl
theorem PidxS_is {s : ByteArray} : PidxS (.val (.string s)) (.val (.int q j)) K = vand (0 ≤ j) (vget (bl s)[j.toNat]? fun b => K (by8 b)) := by
 unfold PidxS; simp only; cases (bl s)[j.toNat]? <;> rfl
theorem Pext_is {i : Nat} : Pext i (.tup cs) K = vget cs[i]? K := by
 unfold Pext; simp only; cases cs[i]? <;> rfl
theorem PlenS_is {s : ByteArray} : PlenS (.val (.string s)) K = vlet (TV.val (.int .i64 (bl s).length)) K := by_refl rfl
theorem PlenV_sl : PlenV (.sl k cs) K = vlet (TV.val (.int .i64 cs.length)) K := by_refl rfl
theorem PlenV_os : PlenV (.os k id ver p off n cp) K = K (.val (.int .i64 n)) := by_refl rfl
theorem PlenV_val {ad : Option Addr} {c : Nat} : PlenV (.val (.slice ad n c)) K = K (.val (.int .i64 n)) := by_refl rfl
section
variable {len lim : Nat} {KN : Nat → Nat → Prop} {l h : Int} {q2 : IntKind}
theorem bndV_nn : bndV none none len lim KN = vand (len ≤ lim) (KN 0 len) := by
 show ((0 ≤ (0:Int) ∧ (0:Int) ≤ (len : Int) ∧ (len : Int) ≤ lim) ∧ KN (Int.toNat 0) (Int.toNat len)) = _
 simp [vand]
theorem bndV_sn : bndV (some (.val (.int q l))) none len lim KN = vand (0 ≤ l ∧ l ≤ len ∧ (len : Int) ≤ lim) (vlet l.toNat fun l => KN l len) := by
 show ((0 ≤ l ∧ l ≤ (len : Int) ∧ (len : Int) ≤ lim) ∧ KN l.toNat (Int.toNat len)) = _
 simp [vand, vlet]
theorem bndV_ns : bndV none (some (.val (.int q h))) len lim KN = vand (0 ≤ h ∧ h ≤ lim) (vlet h.toNat fun h => KN 0 h) := by
 show ((0 ≤ (0:Int) ∧ 0 ≤ h ∧ h ≤ lim) ∧ KN (Int.toNat 0) h.toNat) = _
 simp [vand, vlet]
theorem bndV_ss : bndV (some (.val (.int q l))) (some (.val (.int q2 h))) len lim KN = vand (0 ≤ l ∧ l ≤ h ∧ h ≤ lim) (vlet l.toNat fun l => vlet h.toNat fun h => KN l h) := by_refl rfl
end
theorem PslS_is {s : ByteArray} : PslS (.val (.string s)) lo hi K = bndV lo hi (bl s).length (bl s).length fun l h => vlet (((bl s).drop l).take (h - l)) fun r => K (.val (.string (str r))) := by_refl rfl
theorem PslV_sl : PslV k (.sl k cs) lo hi K = bndV lo hi cs.length cs.length fun l h => vlet ((cs.drop l).take (h - l)) fun r => K (.sl k r) := by
 exact propext ⟨fun h => h.2, fun h => ⟨rfl, h⟩⟩
theorem PslV_os : PslV k (.os k id ver p off n cp) lo hi K = bndV lo hi n cp fun l h => vlet (off + l) fun o => vlet (h - l) fun m => vlet (cp - l) fun c => K (.os k id ver p o m c) := by
 exact propext ⟨fun h => h.2, fun h => ⟨rfl, h⟩⟩
theorem PslV_val {ad : Option Addr} : PslV k (.val (.slice ad 0 0)) lo hi K = bndV lo hi 0 0 fun l h => K (.val (.slice ad 0 0)) := by_refl rfl
theorem PslA_fp : PslA H n k (.fp (.arr n k cs)) lo hi K = vand (n ≤ 9223372036854775807) (bndV lo hi n n fun l h => vlet ((cs.drop l).take (h - l)) fun r => K (.sl k r)) := by
 exact propext ⟨fun h => ⟨h.2.2.1, h.2.2.2⟩, fun h => ⟨rfl, rfl, h.1, h.2⟩⟩
/-- An array at the end of a way. -/
def arrIn : Option TV → Nat → Nat → Option (List TV)
 | some (.arr n' k' cs), n, k => if n' = n ∧ k' = k then some cs else none
 | _, _, _ => none
theorem arrIn_is : arrIn (some (.arr n k cs)) n k = some cs := by simp [arrIn]
theorem PslA_op : PslA H n k (.op id ver p) lo hi K = vget (obIn H[id]? ver) fun x => vand (n ≤ 9223372036854775807) (vget (arrIn (getP p x) n k) fun _ => bndV lo hi n n fun l h => vlet (h - l) fun m => vlet (n - l) fun c => K (.os k id ver p l m c)) := by
 unfold PslA
 simp only
 cases h : H[id]? with
 | none => simp [obIn, vget]
 | some o =>
  cases o with
  | gone v => simp [obIn, vget]
  | ice v m y => simp [obIn, vget]
  | fact i v t m => simp [obIn, vget]
  | bld v t l => simp [obIn, vget]
  | lp st pe fn N en ps ca cb => simp [obIn, vget]
  | mpo kk es => simp [obIn, vget]
  | sit s pos => simp [obIn, vget]
  | obj v x =>
   by_cases hv : v = ver
   ·simp only [obIn, vget, hv, vand, vlet, if_true, true_and]
    congr 1
    cases hg : getP p x with
    | none => simp [arrIn]
    | some y =>
     cases y with
     | arr n2 k2 ds =>
      by_cases h1 : n2 = n
      ·by_cases h2 : k2 = k
       ·simp [arrIn, h1, h2]; exact Iff.rfl
       ·simp [arrIn, h1, h2]
      ·simp [arrIn, h1]
     | _ => simp [arrIn]
   ·simp [obIn, vget, hv]
theorem Piface_is {t : TypeId} : Piface t x K = vand (lays x = true) (K (.ifc t x)) := by_refl rfl
theorem Pmkf_is {f : Fn} : Pmkf f cs ys K = vand (noTup (cs ++ ys)) (K (.fn f cs ys)) := by_refl rfl
theorem Pnilc_op : Pnilc (.op id ver p) K = K (.op id ver p) := by_refl rfl
theorem Pnilc_fp : Pnilc (.fp y) K = K (.fp y) := by_refl rfl
theorem Pnilc_fn {f : FuncId} {a b : List TV} : Pnilc (.fn (.func f) a b) K = K (.fn (.func f) a b) := by_refl rfl
theorem Pnilc_ifc {t : TypeId} : Pnilc (.ifc t y) K = K (.ifc t y) := by_refl rfl
theorem Pnilc_func {f : FuncId} {a b : Array Value} : Pnilc (.val (.func (.func f) a b)) K = K (.val (.func (.func f) a b)) := by_refl rfl
section
variable {a b : Int} {q2 : IntKind}
theorem Pmin_is : Pmin (.val (.int q a)) (.val (.int q2 b)) K = vif (decide (b < a)) (K (.val (.int q b))) (K (.val (.int q a))) := by
 show K _ = _
 by_cases h : b < a <;> simp [vif, h]
theorem Pmax_is : Pmax (.val (.int q a)) (.val (.int q2 b)) K = vif (decide (a < b)) (K (.val (.int q b))) (K (.val (.int q a))) := by
 show K _ = _
 by_cases h : a < b <;> simp [vif, h]
theorem Pgen_sl3 {q1 q2 q3 : IntKind} {l h m : Int} : Pgen (.sl3 k) H [.sl k cs, .val (.int q1 l), .val (.int q2 h), .val (.int q3 m)] K = vand (0 ≤ l ∧ l ≤ h ∧ h ≤ m ∧ m ≤ cs.length) (vlet ((cs.drop l.toNat).take (h.toNat - l.toNat)) fun r => K (.sl k r)) := by
 unfold Pgen gev vand vlet
 simp only [true_and]
 by_cases hc : 0 ≤ l ∧ l ≤ h ∧ h ≤ m ∧ m ≤ cs.length
 ·rw [if_pos hc]; simp [hc]
 ·rw [if_neg hc]; simp only [hc, false_and]
theorem Pgen_eqA {n : Nat} {b : Bool} {xs ys : List UInt8} : Pgen (.eqA n b) H [.arr n 1 (xs.map by8), .arr n 1 (ys.map by8)] K = vlet (TV.val (.bool (xor b (xs == ys)))) K := by
 unfold Pgen gev vlet
 simp only [isByB_all, unby_all, and_self, if_true]
theorem Pgen_r2s {q : IntKind} {n : Int} : Pgen .r2s H [.val (.int q n)] K = vlet (TV.val (.string (Utf8.encode n))) K := by_refl rfl
theorem PeqB_f {s t : Bool} : PeqB false (.val (.bool s)) (.val (.bool t)) K = vlet (TV.val (.bool (s == t))) K := by
 show K _ = _; simp [vlet]
theorem PeqB_t {s t : Bool} : PeqB true (.val (.bool s)) (.val (.bool t)) K = vlet (TV.val (.bool (!(s == t)))) K := by
 show K _ = _; simp [vlet]
theorem PeqN_t {m b : Bool} : PeqN m (some true) (some b) K = vlet (TV.val (.bool (xor m b))) K := by_refl rfl
theorem PeqN_f {m : Bool} : PeqN m (some false) (some true) K = vlet (TV.val (.bool (xor m false))) K := by_refl rfl
end
theorem Smupd_is {kk : MK} {m : Nat} {kx v : TV} : Smupd kk (.mp m 0) kx v H KK = vget (mapIn kk H[m]?) fun es => vget (kBytes kk kx) fun kb => vand (lays v = true) (vlet (mput kb v es) fun es' => vlet (H.set m (.mpo kk es')) fun H' => KK .any H') := by
 unfold Smupd
 cases hh : H[m]? with
 | none => cases kBytes kk kx <;> simp [hh, mapIn, vget]
 | some o =>
  cases o with
  | mpo kk' es =>
   by_cases hk : kk' = kk
   ·subst hk; cases kBytes kk' kx <;> simp [hh, mapIn, vget, vand, vlet]
   ·cases kBytes kk kx <;> simp [hh, mapIn, vget, hk]
  | _ => cases kBytes kk kx <;> simp [hh, mapIn, vget]
theorem Sment_is {kk : MK} {m : Nat} {kx z : TV} : Sment kk z (.mp m 0) kx H KK = vget (mapIn kk H[m]?) fun es => vget (kBytes kk kx) fun kb => vlet ((mget kb es).getD z) fun y => vlet (mpos kb es) fun p => vlet (mput kb y es) fun es' => vlet (H.set m (.mpo kk es')) fun H' => KK (.tup [y, .val (.int .i64 (p : Int))]) H' := by
 unfold Sment
 cases hh : H[m]? with
 | none => cases kBytes kk kx <;> simp [hh, mapIn, vget]
 | some o =>
  cases o with
  | mpo kk' es =>
   by_cases hk : kk' = kk
   ·subst hk; cases kBytes kk' kx <;> simp [hh, mapIn, vget, vlet]
   ·cases kBytes kk kx <;> simp [hh, mapIn, vget, hk]
  | _ => cases kBytes kk kx <;> simp [hh, mapIn, vget]
def anyMap : Option Ob → Option (MK × List (List UInt8 × TV))
 | some (.mpo kk es) => some (kk, es)
 | _ => none
theorem anyMap_is {kk : MK} {es : List (List UInt8 × TV)} : anyMap (some (.mpo kk es)) = some (kk, es) := by simp [anyMap]
theorem Smest_is {m j : Nat} {q : IntKind} {v : TV} : Smest (.mp m 0) (.val (.int q (j : Int))) v H KK = vget (anyMap H[m]?) fun p => vand (lays v = true) (vget p.2[j]? fun y => vlet (p.2.set j (y.1, v)) fun es' => vlet (H.set m (.mpo p.1 es')) fun H' => KK .any H') := by
 unfold Smest
 cases hh : H[m]? with
 | none => simp [hh, anyMap, vget]
 | some o =>
  cases o with
  | mpo kk' es =>
   simp only [hh, anyMap, vget, vand, vlet, Int.natCast_nonneg, true_and, Int.toNat_natCast]
   cases es[j]? <;> simp
  | _ => simp [hh, anyMap, vget]
theorem Pgen_look {kk : MK} {z kx : TV} {ok : Bool} {m : Nat} : Pgen (.look kk z ok) H [.mp m 0, kx] K = vget (mapIn kk H[m]?) fun es => vget (kBytes kk kx) fun kb => vlet (lookT z ok (mget kb es)) K := by
 unfold Pgen gev gLook
 cases hh : H[m]? with
 | none => cases hb : kBytes kk kx <;> simp [hh, hb, mapIn, vget]
 | some o =>
  cases o with
  | mpo kk' es =>
   by_cases hk : kk' = kk
   ·subst hk; cases hb : kBytes kk' kx <;> simp [hh, hb, mapIn, vget, vlet]
   ·cases hb : kBytes kk kx <;> simp [hh, hb, mapIn, vget, hk]
  | _ => cases hb : kBytes kk kx <;> simp [hh, hb, mapIn, vget]
theorem Pgen_look0 {kk : MK} {z kx : TV} {ok : Bool} : Pgen (.look kk z ok) H [.val (.map none), kx] K = vget (kBytes kk kx) fun kb => vlet (lookT z ok none) K := by
 unfold Pgen gev gLook
 cases hb : kBytes kk kx <;> simp [hb, vget, vlet]
theorem Pgen_lenM {m : Nat} : Pgen .lenM H [.mp m 0] K = vget (anyMap H[m]?) fun p => vlet p.2.length fun n => vlet (TV.val (.int .i64 (n : Int))) K := by
 unfold Pgen gev gLenM
 cases hh : H[m]? with
 | none => simp [hh, anyMap, vget]
 | some o => cases o <;> simp [hh, anyMap, vget, vlet]
theorem Sstore_is {sz : Nat} : Sstore H sz (.op id ver p) y KK = vand (lays y = true ∧ width y = sz) (vget (obIn H[id]? ver) fun z => vget (setP p z y) fun z' => vlet (H.set id (.obj ver z')) fun H' => KK .any H') := by
 unfold Sstore
 simp only [vand]
 congr 1
 cases h : H[id]? with
 | none => simp [obIn, vget]
 | some o =>
  cases o with
  | gone v => simp [obIn, vget]
  | ice v m y => simp [obIn, vget]
  | fact i v t m => simp [obIn, vget]
  | bld v t l => simp [obIn, vget]
  | lp st pe fn N en ps ca cb => simp [obIn, vget]
  | mpo kk es => simp [obIn, vget]
  | sit s pos => simp [obIn, vget]
  | obj v x =>
   by_cases hv : v = ver
   ·subst hv; simp only [obIn, vget, vlet, if_true, true_and]; cases setP p x y <;> rfl
   ·simp [obIn, vget, hv]
theorem Smks_is {z : TV} {l c : Int} {q2 : IntKind} {bytes : Nat} : Smks H k bytes z (.val (.int q l)) (.val (.int q2 c)) KK = vand (0 ≤ l ∧ l ≤ c ∧ (bytes : Int) * c ≤ 281474976710656 ∧ c ≤ 9223372036854775807) (vlet l.toNat fun l => vlet c.toNat fun c => vlet H.length fun m => vlet (H ++ [.obj 0 (.arr c k (List.replicate c z))]) fun H' => KK (.os k m 0 [] 0 l c) H') := by_refl rfl
/-- A row that may grow: a nil slice, or an object of one's own. -/
theorem Sapp_nil {bytes : Nat} {et : TypeId} : Sapp k bytes et (.val (.slice none 0 0)) (some ys) H KK = vand (ys.length * bytes ≤ 140737488355328 ∧ ys.length ≤ 9223372036854775807) (vlet ys.length fun n => vlet H.length fun m => vlet (H ++ [.obj 1 (.arr n k ys)]) fun H' => KK (.os k m 1 [] 0 n n) H') := by_refl rfl
/-- The array in an object. -/
def arrOb : Option TV → Nat → Option (List TV)
 | some (.arr _ k' cs), k => if k' = k then some cs else none
 | _, _ => none
theorem arrOb_is : arrOb (some (.arr n k cs)) k = some cs := by simp [arrOb]
theorem appO_obj {v n2 : Nat} {et : TypeId} : appO (some (.obj v (.arr n2 k cs))) v k et off n ys = some (.obj (v + 1) (.arr (n + ys.length) k ((cs.drop off).take n ++ ys))) := by simp [appO]
theorem appO_bld {v : Nat} {et : TypeId} {l m : List UInt8} : appO (some (.bld v et l)) v 1 et 0 n (m.map by8) = some (.bld (v + 1) et (l.take n ++ m)) := by
 simp only [appO, isByB_all, unby_all, and_self, if_true]
theorem appO_bld1 {v : Nat} {et : TypeId} {l : List UInt8} {b : UInt8} : appO (some (.bld v et l)) v 1 et 0 n [by8 b] = some (.bld (v + 1) et (l.take n ++ [b])) := appO_bld (m := [b])
theorem lenO_obj {v n2 : Nat} : lenO (some (.obj v (.arr n2 k cs))) = cs.length := by simp [lenO]
theorem lenO_bld {v : Nat} {et : TypeId} {l : List UInt8} : lenO (some (.bld v et l)) = l.length := by simp [lenO]
theorem Sapp_os {bytes : Nat} {et : TypeId} : Sapp k bytes et (.os k id ver [] off n cp) (some ys) H KK = vget (appO H[id]? ver k et off n ys) fun o => vand (off + n ≤ lenO H[id]? ∧ (n + ys.length) * bytes ≤ 140737488355328 ∧ n + ys.length ≤ 9223372036854775807)
   (vlet (n + ys.length) fun m => vlet (H.set id o) fun H' => KK (.os k id (ver + 1) [] 0 m m) H') := by
 unfold Sapp appTo
 simp only [true_and]
 cases h : appO H[id]? ver k et off n ys with
 | none => simp [vget]
 | some o => simp [vget, vand, vlet]
theorem SappS_is {s : ByteArray} {et : TypeId} : SappS et x (.val (.string s)) H KK = vlet ((bl s).map by8) fun ys => Sapp 1 1 et x (some ys) H KK := by_refl rfl
/-- How many elements an array has. -/
def arrN : Option TV → Option Nat
 | some (.arr n _ _) => some n
 | _ => none
theorem arrN_is : arrN (some (.arr n k cs)) = some n := by_refl rfl
theorem Scopy_is : Scopy k (.os k id ver p off n cp) (some ys) H KK = vget (obIn H[id]? ver) fun z => vget (arrOb (getP p z) k) fun cs => vget (arrN (getP p z)) fun N => vand (off + n ≤ cs.length) (vget (setP p z (.arr N k (cs.take off ++ (ys.take n ++ cs.drop (off + min ys.length n))))) fun z' =>
  vlet (H.set id (.obj ver z')) fun H' => vlet (TV.val (.int .i64 (min ys.length n : Nat))) fun r => KK r H') := by
 unfold Scopy copyTo
 simp only [true_and]
 cases h : H[id]? with
 | none => simp [obIn, vget]
 | some o =>
  cases o with
  | gone v => simp [obIn, vget]
  | ice v m y => simp [obIn, vget]
  | fact i v t m => simp [obIn, vget]
  | bld v t l => simp [obIn, vget]
  | lp st pe fn N en ps ca cb => simp [obIn, vget]
  | mpo kk es => simp [obIn, vget]
  | sit s pos => simp [obIn, vget]
  | obj v x =>
   by_cases hv : v = ver
   ·simp only [obIn, vget, hv, if_true, true_and]
    cases hg : getP p x with
    | none => simp [arrOb]
    | some y =>
     cases y with
     | arr n2 k2 ds =>
      by_cases h1 : k2 = k
      ·subst h1; simp only [arrOb, arrN, vand, vlet, if_true, true_and]; refine congrArg (_ ∧ ·) ?_; cases setP p x (.arr n2 k2 (ds.take off ++ (ys.take n ++ ds.drop (off + min ys.length n)))) <;> rfl
      ·simp [arrOb, h1]
     | _ => simp [arrOb]
   ·simp [obIn, vget, hv]
theorem ScopyS_is {s : ByteArray} : ScopyS x (.val (.string s)) H KK = vlet ((bl s).map by8) fun ys => Scopy 1 x (some ys) H KK := by_refl rfl
theorem Sbstr_is {f : FuncId} {j v : Nat} {l : List UInt8} : Sbstr P f (some (j, v, l)) H KK = vand (BStr P f) (vand (l.length ≤ 9223372036854775807) (vlet (H.set j (.gone v)) fun H' => KK (.val (.string (str l))) H')) := by_refl rfl
def rowB (o : Option Ob) (j v n : Nat) (a : TV) : Option (Nat × Nat × List UInt8) := match o with
 | some (.bld v3 t l) => if v3 = v ∧ t = byteTy ∧ n = l.length ∧ width a = 1 then some (j, v, l) else none
 | _ => none
def rowAt (H : List Ob) (j v n : Nat) (a : TV) : Option (Nat × Nat × List UInt8) := rowB H[j]? j v n a
def rowIn (H : List Ob) (q : Option TV) : Option (Nat × Nat × List UInt8) := match q with
 | some (.agg [a, .os 1 j v2 [] 0 n cp]) => rowAt H j v2 n a
 | _ => none
theorem rowOf_op {id ver : Nat} {p : List (Nat × Nat)} : rowOf H (.op id ver p) = rowIn H ((obIn H[id]? ver).bind (getP p)) := by
 unfold rowOf
 simp only []
 cases h : H[id]? with
 | none => simp [obIn, rowIn]
 | some o =>
  cases o with
  | obj v y =>
   by_cases hv : v = ver
   ·simp only [obIn, hv, if_true, Option.bind_some]
    unfold rowIn rowAt rowB
    rfl
   ·simp [obIn, rowIn, hv]
  | _ => simp [obIn, rowIn]
theorem rowIn_is {a : TV} {j v n cp : Nat} : rowIn H (some (.agg [a, .os 1 j v [] 0 n cp])) = rowAt H j v n a := by_refl rfl
theorem rowAt_is {a : TV} {j v n : Nat} : rowAt H j v n a = rowB H[j]? j v n a := by_refl rfl
theorem rowB_is {a : TV} {j v n : Nat} {l : List UInt8} (hn : n = l.length) (ha : width a = 1) : rowB (some (.bld v 5 l)) j v n a = some (j, v, l) := by
 simp [rowB, hn, ha, byteTy]
theorem Ss2b_is {s : ByteArray} : Ss2b H (.val (.string s)) KK = vand ((bl s).length ≤ 9223372036854775807) (vlet (bl s).length fun n => vlet ((bl s).map by8) fun r => vlet H.length fun m => vlet (H ++ [.obj 0 (.arr n 1 r)]) fun H' => KK (.os 1 m 0 [] 0 n n) H') := by_refl rfl
theorem Scallv_fn {f : FuncId} {a b : List TV} : Scallv P (.fn (.func f) a b) cs H KK = vand (isGo P f = true) (vlet (a ++ cs ++ b) fun xs => VC P f xs H KK) := by_refl rfl
theorem Scallv_val {f : FuncId} : Scallv P (.val (.func (.func f) #[] #[])) cs H KK = vand (isGo P f = true) (VC P f cs H KK) := by
 exact propext ⟨fun h => ⟨h.2.1, h.2.2⟩, fun h => ⟨rfl, h.1, h.2⟩⟩
theorem Scallv_yl : Scallv P (.yl id ver) cs H KK = VY P id ver cs H KK := by_refl rfl
theorem Gd_tt {t : Bool} {A B : Prop} : Gd (some t) true A B = vif t A B := by_refl rfl
theorem Gd_tf {t : Bool} {A B : Prop} : Gd (some t) false A B = vif t B A := by cases t <;> simp [Gd, vif]
theorem Gd_n {b : Bool} {A B : Prop} : Gd none b A B = B := by_refl rfl
end

section
variable {Q : VEx → Env → List Ob → Prop} {l : List VO} {kp : List Nat} {a b : VCode}
def Vcond (x : TV) (A B : Prop) [Tg A] [Tg B] : Prop := match x with
  | .val (.bool t) => if t = true then A else B
  | _ => False
@[congr] theorem Vcond_c {x x' : TV} {A B : Prop} (h : x = x') : Vcond x A B = Vcond x' A B := by rw [h]
theorem Vcond_is {t : Bool} {A B : Prop} : Vcond (.val (.bool t)) A B = vif t A B := by_refl rfl
theorem w_ops : vwp P (.ops l kp) Q e H = vops P l (fun e H => vlet (forget kp e) fun e => Q .nor e H) e H := by_refl rfl
theorem w_draw {n : Nat} : vwp P (.draw n l kp) Q e H = (vq P (l.take n) (fun e => vops P (l.drop n) (fun e H => vlet (forget kp e) fun e => Q .nor e H) e H) e H) := by_refl rfl
/-- What follows. -/
def Thn (P : Program) (b : VCode) (Q : VEx → Env → List Ob → Prop) : VEx → Env → List Ob → Prop := fun x e H => match x with | .nor => vwp P b Q e H | .exit i => Q (.exit i) e H | .ret => Q .ret e H | .pan u => Q (.pan u) e H
theorem Thn_nor : Thn P b Q .nor e H = vwp P b Q e H := by_refl rfl
theorem Thn_exit {i : Nat} : Thn P b Q (.exit i) e H = Q (.exit i) e H := by_refl rfl
theorem Thn_ret : Thn P b Q .ret e H = Q .ret e H := by_refl rfl
theorem w_seq : vwp P (.seq a b) Q e H = vwp P a (Thn P b Q) e H := by_refl rfl
/-- The end of a block. -/
def Blk (id : Nat) (Q : VEx → Env → List Ob → Prop) : VEx → Env → List Ob → Prop := fun x e H => match x with | .nor => Q .nor e H | .exit i => if i = id then Q .nor e H else Q (.exit i) e H | .ret => Q .ret e H | .pan u => Q (.pan u) e H
theorem Blk_nor {id : Nat} : Blk id Q .nor e H = Q .nor e H := by_refl rfl
theorem Blk_exit {id : Nat} : Blk id Q (.exit id) e H = Q .nor e H := by simp [Blk]
theorem Blk_exit_ne {id i : Nat} (h : i ≠ id) : Blk id Q (.exit i) e H = Q (.exit i) e H := by simp [Blk, h]
theorem Blk_ret {id : Nat} : Blk id Q .ret e H = Q .ret e H := by_refl rfl
theorem w_block {id : Nat} : vwp P (.block id a) Q e H = vwp P a (Blk id Q) e H := by_refl rfl
theorem w_cond {c : Opd} : vwp P (.cond c a b) Q e H = Vcond (c.ev e) (vwp P a Q e H) (vwp P b Q e H) := by_refl rfl
/-- The end of a round, from a beginning with n0 objects on. -/
def Rnd (n0 : Nat) (lv : List Nat) (Q : VEx → Env → List Ob → Prop) (I : Nat → Env → List Ob → Prop) (n : Nat) : VEx → Env → List Ob → Prop := fun x e H => match x with
 | .nor => ∃ m g, m < n ∧ (n0 ≤ g ∧ (H.length ≤ g ∨ (belowE g (forget lv e) = true ∧ belowH g (H.take g) = true))) ∧ I m (forget lv e) (H.take g)
 | .exit i => Q (.exit i) e H | .ret => Q .ret e H | .pan u => Q (.pan u) e H
section
variable {n0 : Nat} {lv : List Nat} {I : Nat → Env → List Ob → Prop} {n : Nat}
theorem Rnd_exit {i : Nat} : Rnd n0 lv Q I n (.exit i) e H = Q (.exit i) e H := by_refl rfl
theorem Rnd_ret : Rnd n0 lv Q I n .ret e H = Q .ret e H := by_refl rfl
/-- A round's end, all objects kept. -/
theorem Rnd_keep (m : Nat) (hm : m < n) (h : n0 ≤ H.length) (hR : I m (forget lv e) H) : Rnd n0 lv Q I n .nor e H := by
 refine ⟨m, H.length, hm, ⟨h, .inl (Nat.le_refl _)⟩, ?_⟩
 rw [List.take_length]; exact hR
/-- A round's end; the objects from the g-th on are forgotten. -/
theorem Rnd_cut (m g : Nat) (hm : m < n) (h : n0 ≤ g) (he : belowE g (forget lv e) = true) (hH : belowH g (H.take g) = true) (hR : I m (forget lv e) (H.take g)) : Rnd n0 lv Q I n .nor e H :=
 ⟨m, g, hm, ⟨h, .inr ⟨he, hH⟩⟩, hR⟩
end
/-- A LOOP: what holds ahead of each round. -/
theorem w_loop {lv : List Nat} {H0 : List Ob} (I : Nat → Env → List Ob → Prop) (n : Nat) (h0 : I n (forget lv e) H0)
  (hs : ∀ n e H, I n e H → vwp P a (Rnd H0.length lv Q I n) e H) : vwp P (.loop lv a) Q e H0 := by
 rw [v_loop]
 exact ⟨I, n, h0, hs⟩
theorem o_g {d s : Nat} {o : VOp} {b : Bool} {r : List VO} {K : Env → List Ob → Prop} : vops P (⟨some d, o, some (s, b)⟩ :: r) K e H = knowB e s fun e q => Gd q b (vop P o e H (fun x H => vops P r K ((d, x) :: e) H)) (vops P r K ((d, .val undef) :: e) H) := by
 rw [vops_g]; refine congrArg (knowB e s) ?_; funext e q; cases q <;> rfl
def knowT (x : TV) (e : Env) (s : Nat) (Q : Env → Option Bool → Prop) [Tg Q] : Prop := match x with
 | .val v => Q e (isB v)
 | .any => (∀ t, Q ((s, .val (.bool t)) :: e) (some t)) ∧ ∀ v, isB v = none → Q ((s, .val v) :: e) none
 | _ => False
@[congr] theorem knowT_c {x x' : TV} {s : Nat} {Q : Env → Option Bool → Prop} (h : x = x') : knowT x e s Q = knowT x' e s Q := by rw [h]
theorem know_T {s : Nat} {Q : Env → Option Bool → Prop} : knowB e s Q = knowT (get e s) e s Q := by_refl rfl
theorem knowT_b {b : Bool} {s : Nat} {Q : Env → Option Bool → Prop} : knowT (.val (.bool b)) e s Q = Q e (some b) := by_refl rfl
theorem knowT_u {s : Nat} {Q : Env → Option Bool → Prop} : knowT (.val undef) e s Q = Q e none := by_refl rfl
theorem u_c {d : Nat} {f : FuncId} {args : List Opd} {r : List VO} {K : Env → Prop} : vq P (⟨some d, .s (.call f args), none⟩ :: r) K e H = vlet (evs e args) fun xs => vand (noTup xs) (vex fun x => VC P f xs H (fun y H' => y = x ∧ H' = H) ∧ vq P r K ((d, x) :: e) H) := by
 rw [vq_c, noTup_of]; rfl
def Gq (x : TV) (b : Bool) (A B : Prop) [Tg A] [Tg B] : Prop := match x with
 | .val v => if isB v = some b then A else B
 | _ => False
@[congr] theorem Gq_c {x x' : TV} {b : Bool} {A B : Prop} (h : x = x') : Gq x b A B = Gq x' b A B := by rw [h]
theorem Gq_t {t : Bool} {A B : Prop} : Gq (.val (.bool t)) true A B = vif t A B := by cases t <;> simp [Gq, vif, isB]
theorem Gq_u {b : Bool} {A B : Prop} : Gq (.val undef) b A B = B := by simp [Gq, isB, undef]
theorem Gq_f {t : Bool} {A B : Prop} : Gq (.val (.bool t)) false A B = vif t B A := by cases t <;> simp [Gq, vif, isB]
theorem u_g {d s : Nat} {o : VOp} {b : Bool} {r : List VO} {K : Env → Prop} : vq P (⟨some d, o, some (s, b)⟩ :: r) K e H = Gq (get e s) b (quiet P o e H fun x => vq P r K ((d, x) :: e) H) (vq P r K ((d, .val undef) :: e) H) := by_refl rfl
theorem u_qc {f : FuncId} {args : List Opd} {k : TV → Prop} : quiet P (.s (.call f args)) e H k = vlet (evs e args) fun xs => vand (noTup xs) (vex fun x => VC P f xs H (fun y H' => y = x ∧ H' = H) ∧ k x) := by
 rw [quiet_c, noTup_of]; rfl
def OwnT (P : Program) (x : TV) (s k : Nat) (c : VCode) (Q : VEx → Env → List Ob → Prop) (e : Env) (H : List Ob) : Prop := match x with
  | .val (.slice none 0 0) => vwp P c Q ((s, .os k H.length 0 [] 0 0 0) :: e) (H ++ [.obj 0 (.arr 0 k [])])
  | _ => vwp P c Q e H
@[congr] theorem OwnT_c {x x' : TV} {s k : Nat} (h : x = x') : OwnT P x s k a Q e H = OwnT P x' s k a Q e H := by rw [h]
theorem w_own {s k : Nat} : vwp P (.own s k a) Q e H = OwnT P (get e s) s k a Q e H := by_refl rfl
theorem OwnT_nil {s k : Nat} : OwnT P (.val (.slice none 0 0)) s k a Q e H = vwp P a Q ((s, .os k H.length 0 [] 0 0 0) :: e) (H ++ [.obj 0 (.arr 0 k [])]) := by_refl rfl
theorem OwnT_os {s k k' id ver off n cp : Nat} {p : List (Nat × Nat)} : OwnT P (.os k' id ver p off n cp) s k a Q e H = vwp P a Q e H := by_refl rfl
end
/-- Results. -/
theorem y_tmp {t : Nat} {K : TV → Prop} : res [.tmp t] e H K = vlet (get e t) K := by_refl rfl
theorem yL_tmp {t : Nat} {r : List VR} {K : List TV → Prop} : resL (.tmp t :: r) e H K = vlet (get e t) fun x => resL r e H fun xs => K (x :: xs) := by_refl rfl
def resM (K : TV → Prop) (xs : List TV) : Prop := match xs with
 | [x] => K x
 | xs => (∀ x ∈ xs, isTup x = false) ∧ K (.tup xs)
theorem resM_two {x y : TV} {l : List TV} {K : TV → Prop} : resM K (x :: y :: l) = vand (noTup (x :: y :: l)) (vlet (TV.tup (x :: y :: l)) K) := by_refl rfl
theorem y_many {r s : VR} {l : List VR} {K : TV → Prop} : res (r :: s :: l) e H K = resL (r :: s :: l) e H (resM K) := by_refl rfl
theorem y_cell {a sz : Nat} {ag : Bool} {K : TV → Prop} : res [.cell a ag sz] e H K = pop (.load ag sz (.t a)) e H K := by_refl rfl
theorem y_nil {K : TV → Prop} : res [] e H K = K (.tup []) := by rw [res_nil]; simp
end

def VCP (P : Program) (f : FuncId) (xs : List TV) (H : List Ob) (K : TV → List Ob → Prop) (KP : Value → List Ob → Prop) [Tg K] [Tg KP] : Prop := VCallsP P f xs H K KP
@[congr] theorem VCP_congr {P : Program} {f : FuncId} {xs xs' : List TV} {H H' : List Ob} {K : TV → List Ob → Prop} {KP : Value → List Ob → Prop} (he : xs = xs') (hH : H = H') : VCP P f xs H K KP = VCP P f xs' H' K KP := by rw [he, hH]
def Vpan (x : TV) (K : Value → Prop) [Tg K] : Prop := match x with
 | .val (.iface t v) => K (.iface t v)
 | .ifc t (.val v) => K (.iface t v)
 | _ => False
@[congr] theorem Vpan_c {x x' : TV} {K : Value → Prop} (h : x = x') : Vpan x K = Vpan x' K := by rw [h]
theorem Vpan_ifc {t : TypeId} {v : Value} {K : Value → Prop} : Vpan (.ifc t (.val v)) K = K (.iface t v) := by_refl rfl
theorem Vpan_is {t : TypeId} {v : Value} {K : Value → Prop} : Vpan (.val (.iface t v)) K = K (.iface t v) := by_refl rfl
section
variable {P : Program} {e : Env} {H : List Ob} {r : List VO} {K : Env → List Ob → Prop} {PP : Value → List Ob → Prop} {Q : VEx → Env → List Ob → Prop}
@[congr] theorem pvops_congr {l : List VO} {e' : Env} {H' : List Ob} (he : e = e') (hH : H = H') : pvops P PP l K e H = pvops P PP l K e' H' := by rw [he, hH]
@[congr] theorem pvop_congr' {o : VOp} {e' : Env} {H' : List Ob} {KK : TV → List Ob → Prop} (he : e = e') (hH : H = H') : pvop P PP o e H KK = pvop P PP o e' H' KK := by rw [he, hH]
theorem w_pops {l : List VO} {kp : List Nat} : vwp P (.pops l kp) Q e H = pvops P (fun u H => Q (.pan u) (dropE l e) H) l (fun e H => vlet (forget kp e) fun e => Q .nor e H) e H := by_refl rfl
theorem w_pdraw {n : Nat} {l : List VO} {kp : List Nat} : vwp P (.pdraw n l kp) Q e H = (vq P (l.take n) (fun e => pvops P (fun u H => Q (.pan u) [] H) (l.drop n) (fun e H => vlet (forget kp e) fun e => Q .nor e H) e H) e H) := by_refl rfl
theorem pv_nil : pvops P PP [] K e H = K e H := by_refl rfl
theorem pv_n {d : Nat} {o : VOp} : pvops P PP (⟨some d, o, none⟩ :: r) K e H = pvop P PP o e H (fun x H => pvops P PP r K ((d, x) :: e) H) := by_refl rfl
theorem pv_n0 {o : VOp} : pvops P PP (⟨none, o, none⟩ :: r) K e H = pvop P PP o e H (fun x H => pvops P PP r K e H) := by_refl rfl
theorem pv_g {d s : Nat} {o : VOp} {b : Bool} : pvops P PP (⟨some d, o, some (s, b)⟩ :: r) K e H = knowB e s fun e q => Gd q b (pvop P PP o e H (fun x H => pvops P PP r K ((d, x) :: e) H)) (pvops P PP r K ((d, .val undef) :: e) H) := by
 show wops (pvop P PP) _ K e H = _
 rw [wops]
 refine congrArg (knowB e s) ?_; funext e q; cases q <;> rfl
theorem pvop_p {o : POp} {KK : TV → List Ob → Prop} : pvop P PP (.p o) e H KK = pop o e H fun x => KK x H := by_refl rfl
theorem pvop_call {f : FuncId} {args : List Opd} {KK : TV → List Ob → Prop} : pvop P PP (.s (.call f args)) e H KK = vlet (evs e args) fun xs => vand (noTup xs) (VCP P f xs H KK PP) := by
 show ((∀ x ∈ args, isTup (x.ev e) = false) ∧ _) = _
 rw [noTup_of]; rfl
theorem pvop_pan {x : Opd} {KK : TV → List Ob → Prop} : pvop P PP (.s (.pan x)) e H KK = Vpan (x.ev e) (fun u => PP u H) := by
 show (match x.ev e with | .val (.iface t v) => PP (.iface t v) H | .ifc t (.val v) => PP (.iface t v) H | _ => False) = _
 unfold Vpan
 split <;> simp_all
theorem pvop_alloc {z : TV} {KK : TV → List Ob → Prop} : pvop P PP (.s (.alloc z)) e H KK = sop P (.alloc z) e H KK := by_refl rfl
theorem pvop_box {x : Opd} {KK : TV → List Ob → Prop} : pvop P PP (.s (.box x)) e H KK = sop P (.box x) e H KK := by_refl rfl
theorem pvop_bslice {k n : Nat} {z : TV} {ps : List (Nat × Opd)} {KK : TV → List Ob → Prop} : pvop P PP (.s (.bslice k n z ps)) e H KK = sop P (.bslice k n z ps) e H KK := by_refl rfl
theorem pvop_store {sz : Nat} {x v : Opd} {KK : TV → List Ob → Prop} : pvop P PP (.s (.store sz x v)) e H KK = sop P (.store sz x v) e H KK := by_refl rfl
theorem pvop_mks {k bytes : Nat} {z : TV} {l c : Opd} {KK : TV → List Ob → Prop} : pvop P PP (.s (.mks k bytes z l c)) e H KK = sop P (.mks k bytes z l c) e H KK := by_refl rfl
theorem pvop_app {k bytes : Nat} {et : TypeId} {x y : Opd} {KK : TV → List Ob → Prop} : pvop P PP (.s (.app k bytes et x y)) e H KK = sop P (.app k bytes et x y) e H KK := by_refl rfl
theorem pvop_appS {et : TypeId} {x y : Opd} {KK : TV → List Ob → Prop} : pvop P PP (.s (.appS et x y)) e H KK = sop P (.appS et x y) e H KK := by_refl rfl
theorem pvop_s2b {x : Opd} {KK : TV → List Ob → Prop} : pvop P PP (.s (.s2b x)) e H KK = sop P (.s2b x) e H KK := by_refl rfl
theorem pvop_copy {k : Nat} {x y : Opd} {KK : TV → List Ob → Prop} : pvop P PP (.s (.copy k x y)) e H KK = sop P (.copy k x y) e H KK := by_refl rfl
theorem pvop_copyS {x y : Opd} {KK : TV → List Ob → Prop} : pvop P PP (.s (.copyS x y)) e H KK = sop P (.copyS x y) e H KK := by_refl rfl
theorem pvop_callv {x : Opd} {args : List Opd} {KK : TV → List Ob → Prop} : pvop P PP (.s (.callv x args)) e H KK = sop P (.callv x args) e H KK := by_refl rfl
theorem pvop_mkm {kk : MK} {h : Option Opd} {KK : TV → List Ob → Prop} : pvop P PP (.s (.mkm kk h)) e H KK = sop P (.mkm kk h) e H KK := by_refl rfl
theorem pvop_mupd {kk : MK} {m k x : Opd} {KK : TV → List Ob → Prop} : pvop P PP (.s (.mupd kk m k x)) e H KK = sop P (.mupd kk m k x) e H KK := by_refl rfl
theorem pvop_ment {kk : MK} {z : TV} {m k : Opd} {KK : TV → List Ob → Prop} : pvop P PP (.s (.ment kk z m k)) e H KK = sop P (.ment kk z m k) e H KK := by_refl rfl
theorem pvop_mest {m st x : Opd} {KK : TV → List Ob → Prop} : pvop P PP (.s (.mest m st x)) e H KK = sop P (.mest m st x) e H KK := by_refl rfl
theorem pvop_allocT {z : TV} {t : TypeId} {KK : TV → List Ob → Prop} : pvop P PP (.s (.allocT z t)) e H KK = sop P (.allocT z t) e H KK := by_refl rfl
theorem pvop_boxT {x : Opd} {t : TypeId} {KK : TV → List Ob → Prop} : pvop P PP (.s (.boxT x t)) e H KK = sop P (.boxT x t) e H KK := by_refl rfl
theorem pvop_rngS {x : Opd} {KK : TV → List Ob → Prop} : pvop P PP (.s (.rngS x)) e H KK = sop P (.rngS x) e H KK := by_refl rfl
theorem pvop_nxtS {x : Opd} {KK : TV → List Ob → Prop} : pvop P PP (.s (.nxtS x)) e H KK = sop P (.nxtS x) e H KK := by_refl rfl
theorem pvop_bstr {f : FuncId} {x : Opd} {KK : TV → List Ob → Prop} : pvop P PP (.s (.bstr f x)) e H KK = sop P (.bstr f x) e H KK := by_refl rfl
theorem Thn_pan {b : VCode} {u : Value} : Thn P b Q (.pan u) e H = Q (.pan u) e H := by_refl rfl
theorem Blk_pan {id : Nat} {u : Value} : Blk id Q (.pan u) e H = Q (.pan u) e H := by_refl rfl
theorem Rnd_pan {n0 : Nat} {lv : List Nat} {I : Nat → Env → List Ob → Prop} {n : Nat} {u : Value} : Rnd n0 lv Q I n (.pan u) e H = Q (.pan u) e H := by_refl rfl
theorem atEndP_ret {vr : List VR} {R : TV → List Ob → Prop} {RP : Value → List Ob → Prop} : atEndP vr R RP .ret e H = res vr e H fun x => R x H := by_refl rfl
theorem atEndP_nor {vr : List VR} {R : TV → List Ob → Prop} {RP : Value → List Ob → Prop} : atEndP vr R RP .nor e H = res vr e H fun x => R x H := by_refl rfl
theorem atEndP_pan {vr : List VR} {R : TV → List Ob → Prop} {RP : Value → List Ob → Prop} {u : Value} : atEndP vr R RP (.pan u) e H = RP u H := by_refl rfl
def svops (P : Program) (PP : Value → List Ob → Prop) (Ss : List Nat) (l : List VO) (K : Env → List Ob → Prop) (e : Env) (H : List Ob) : Prop := wops (pvopS P PP Ss) l K e H
@[congr] theorem svops_congr {Ss : List Nat} {l : List VO} {e' : Env} {H' : List Ob} (he : e = e') (hH : H = H') : svops P PP Ss l K e H = svops P PP Ss l K e' H' := by rw [he, hH]
@[congr] theorem pvopS_congr' {Ss : List Nat} {o : VOp} {e' : Env} {H' : List Ob} {KK : TV → List Ob → Prop} (he : e = e') (hH : H = H') : pvopS P PP Ss o e H KK = pvopS P PP Ss o e' H' KK := by rw [he, hH]
theorem w_sdraw {n : Nat} {l : List VO} {kp : List Nat} : vwp P (.sdraw n l kp) Q e H = (vq P (l.take n) (fun e => svops P (fun u H => Q (.pan u) [] H) (ssOf l) (l.drop n) (fun e H => vlet (forget kp e) fun e => Q .nor e H) e H) e H) := by_refl rfl
section
variable {Ss : List Nat}
theorem sv_nil : svops P PP Ss [] K e H = K e H := by_refl rfl
theorem sv_n {d : Nat} {o : VOp} : svops P PP Ss (⟨some d, o, none⟩ :: r) K e H = pvopS P PP Ss o e H (fun x H => svops P PP Ss r K ((d, x) :: e) H) := by_refl rfl
theorem sv_n0 {o : VOp} : svops P PP Ss (⟨none, o, none⟩ :: r) K e H = pvopS P PP Ss o e H (fun x H => svops P PP Ss r K e H) := by_refl rfl
theorem svop_p {o : POp} {KK : TV → List Ob → Prop} : pvopS P PP Ss (.p o) e H KK = pop o e H fun x => KK x H := by_refl rfl
theorem svop_call {f : FuncId} {args : List Opd} {KK : TV → List Ob → Prop} : pvopS P PP Ss (.s (.call f args)) e H KK = vlet (evs e args) fun xs => vand (noTup xs) (VCP P f xs H (fun x H' => KK x H' ∧ Kept Ss e H H') PP) := by
 show ((∀ x ∈ args, isTup (x.ev e) = false) ∧ _) = _
 rw [noTup_of]; rfl
theorem svop_store {sz : Nat} {x v : Opd} {KK : TV → List Ob → Prop} : pvopS P PP Ss (.s (.store sz x v)) e H KK = sop P (.store sz x v) e H fun x H' => KK x H' ∧ Kept Ss e H H' := by_refl rfl
theorem svop_alloc {z : TV} {KK : TV → List Ob → Prop} : pvopS P PP Ss (.s (.alloc z)) e H KK = sop P (.alloc z) e H KK := by_refl rfl
theorem svop_mks {k bytes : Nat} {z : TV} {l c : Opd} {KK : TV → List Ob → Prop} : pvopS P PP Ss (.s (.mks k bytes z l c)) e H KK = sop P (.mks k bytes z l c) e H KK := by_refl rfl
theorem svop_app {k bytes : Nat} {et : TypeId} {x y : Opd} {KK : TV → List Ob → Prop} : pvopS P PP Ss (.s (.app k bytes et x y)) e H KK = sop P (.app k bytes et x y) e H KK := by_refl rfl
theorem svop_bslice {k n : Nat} {z : TV} {ps : List (Nat × Opd)} {KK : TV → List Ob → Prop} : pvopS P PP Ss (.s (.bslice k n z ps)) e H KK = sop P (.bslice k n z ps) e H KK := by_refl rfl
end
theorem VCalls.callsP {f : FuncId} {args : List TV} {R : TV → List Ob → Prop} {RP : Value → List Ob → Prop} (h : VCalls P f args H R) : VCP P f args H R RP := h.mayP
theorem VCallsP.callsP {f : FuncId} {args : List TV} {R R' : TV → List Ob → Prop} {RP RP' : Value → List Ob → Prop} (h : VCallsP P f args H R RP) (hr : ∀ x H', R x H' → R' x H') (hp : ∀ u H', RP u H' → RP' u H') : VCP P f args H R' RP' := h.mono hr hp
end
def vmPre := (And.intro (And.intro (And.intro (And.intro (And.intro (And.intro (And.intro (And.intro @r_mov @r_pick) (And.intro @r_bin @r_un)) (And.intro (And.intro @r_conv @r_s2s) (And.intro @r_b2s @r_load))) (And.intro (And.intro (And.intro @r_fieldA @r_field) (And.intro @r_idxA @r_idxAA)) (And.intro (And.intro @r_idx @r_idxS) (And.intro @r_ext @r_lenS)))) (And.intro (And.intro (And.intro (And.intro @r_lenV @r_slS) (And.intro @r_slV @r_slA)) (And.intro (And.intro @r_iface @r_mkf) (And.intro @r_nilc @r_min))) (And.intro (And.intro (And.intro @r_max @r_eqB) (And.intro @r_eqN @r_gen)) (And.intro (And.intro @r_build @r_buildA) (And.intro @s_alloc @s_allocT))))) (And.intro (And.intro (And.intro (And.intro (And.intro @s_box @s_boxT) (And.intro @s_bstr @s_rngS)) (And.intro (And.intro @s_nxtS @s_bslice) (And.intro @s_store @s_mks))) (And.intro (And.intro (And.intro @s_app @s_appS) (And.intro @s_copy @s_copyS)) (And.intro (And.intro @s_s2b @s_mkm0) (And.intro @s_mkm1 @s_mupd)))) (And.intro (And.intro (And.intro (And.intro @s_ment @s_mest) (And.intro @s_call @s_callv)) (And.intro (And.intro @w_ops @w_draw) (And.intro @v_skip @w_seq))) (And.intro (And.intro (And.intro @w_block @w_cond) (And.intro @v_exit @v_ret)) (And.intro (And.intro @v_scope @w_own) (And.intro @v_ownB @v_ownT)))))) (And.intro (And.intro (And.intro (And.intro (And.intro (And.intro @vops_nil @vops_p) (And.intro @vops_s @vops_s0)) (And.intro (And.intro @o_g @know_T) (And.intro @vop_p @vop_s))) (And.intro (And.intro (And.intro @vq_nil @vq_p) (And.intro @u_c @u_g)) (And.intro (And.intro @quiet_p @u_qc) (And.intro @atEnd_ret @atEnd_nor)))) (And.intro (And.intro (And.intro (And.intro @y_tmp @y_cell) (And.intro @y_nil @y_many)) (And.intro (And.intro @resL_nil @yL_tmp) (And.intro @resL_cell @resM_two))) (And.intro (And.intro (And.intro @Thn_nor @Thn_exit) (And.intro @Thn_ret @Blk_nor)) (And.intro (And.intro @Blk_exit @Blk_exit_ne) (And.intro @Blk_ret @Rnd_exit))))) (And.intro (And.intro (And.intro (And.intro (And.intro @Rnd_ret @w_pops) (And.intro @w_pdraw @w_sdraw)) (And.intro (And.intro @sv_nil @sv_n) (And.intro @sv_n0 @svop_p))) (And.intro (And.intro (And.intro @svop_call @svop_store) (And.intro @svop_alloc @svop_mks)) (And.intro (And.intro @svop_app @svop_bslice) (And.intro @pv_nil @pv_n)))) (And.intro (And.intro (And.intro (And.intro @pv_n0 @pv_g) (And.intro @pvop_p @pvop_call)) (And.intro (And.intro @pvop_pan @pvop_alloc) (And.intro @pvop_box @pvop_bslice))) (And.intro (And.intro (And.intro @pvop_store @pvop_mks) (And.intro @pvop_app @pvop_appS)) (And.intro (And.intro @pvop_s2b @pvop_copy) (And.intro @pvop_copyS @pvop_callv))))))) (And.intro (And.intro (And.intro (And.intro @pvop_mkm @pvop_mupd) (And.intro @pvop_ment @pvop_mest)) (And.intro (And.intro @pvop_allocT @pvop_boxT) (And.intro @pvop_rngS @pvop_nxtS))) (And.intro (And.intro (And.intro @pvop_bstr @Thn_pan) (And.intro @Blk_pan @Rnd_pan)) (And.intro (And.intro @atEndP_ret @atEndP_nor) @atEndP_pan))))
def vmPost := (And.intro (And.intro (And.intro (And.intro (And.intro (And.intro (And.intro (And.intro @Vpan_is @Vpan_ifc) (And.intro @vif_true @vif_false)) (And.intro (And.intro @vif_not @vif_and) (And.intro @vif_or @vif_dt))) (And.intro (And.intro (And.intro @vif_df @vget_some) (And.intro @vget_map @vget_at)) (And.intro (And.intro @vand_and @vand_T) (And.intro @vand_true @vlet_is)))) (And.intro (And.intro (And.intro (And.intro @obIn_obj @ob_app) (And.intro @ob_app1 @ob_low)) (And.intro (And.intro @ob_set @ob_set_ne) (And.intro @obs_app @obs_app1))) (And.intro (And.intro (And.intro @obs_low @Ppick_is) (And.intro @Pbin_is @Pun_is)) (And.intro (And.intro @Pconv_is @Ps2s_is) (And.intro @Pb2s_is @Pload_fp))))) (And.intro (And.intro (And.intro (And.intro (And.intro @Pload_op @PfieldA_op) (And.intro @PfieldA_fp @Pfield_is)) (And.intro (And.intro @PidxA_sl @PidxA_os) (And.intro @PidxAA_fp @PidxAA_op))) (And.intro (And.intro (And.intro @Pidx_is @PidxS_is) (And.intro @Pext_is @PlenS_is)) (And.intro (And.intro @PlenV_sl @PlenV_os) (And.intro @PlenV_val @bndV_nn)))) (And.intro (And.intro (And.intro (And.intro @bndV_sn @bndV_ns) (And.intro @bndV_ss @PslS_is)) (And.intro (And.intro @PslV_sl @PslV_os) (And.intro @PslV_val @PslA_fp))) (And.intro (And.intro (And.intro @arrIn_is @PslA_op) (And.intro @Piface_is @Pmkf_is)) (And.intro (And.intro @Pnilc_op @Pnilc_fp) (And.intro @Pnilc_fn @Pnilc_ifc)))))) (And.intro (And.intro (And.intro (And.intro (And.intro (And.intro @Pnilc_func @Pmin_is) (And.intro @Pmax_is @PeqB_f)) (And.intro (And.intro @PeqB_t @PeqN_t) (And.intro @PeqN_f @Pgen_sl3))) (And.intro (And.intro (And.intro @Pgen_eqA @Pgen_look) (And.intro @Pgen_look0 @Pgen_lenM)) (And.intro (And.intro @Pgen_r2s @mapIn_is) (And.intro @anyMap_is @kB_str)))) (And.intro (And.intro (And.intro (And.intro @kB_arr @lookT_f) (And.intro @lookT_t @Smkm_is)) (And.intro (And.intro @Smupd_is @Sment_is) (And.intro @Smest_is @Option.getD_none.{0}))) (And.intro (And.intro (And.intro @Option.getD_some.{0} @Sstore_is) (And.intro @Smks_is @Sapp_nil)) (And.intro (And.intro @arrOb_is @appO_obj) (And.intro @appO_bld @appO_bld1))))) (And.intro (And.intro (And.intro (And.intro (And.intro @lenO_obj @lenO_bld) (And.intro @Sapp_os @SappS_is)) (And.intro (And.intro @arrN_is @Scopy_is) (And.intro @ScopyS_is @Ss2b_is))) (And.intro (And.intro (And.intro @Sbstr_is @SrngS_is) (And.intro @SnxtS_is @sitIn_is)) (And.intro (And.intro @rowOf_op @rowIn_is) (And.intro @rowAt_is @rowB_is)))) (And.intro (And.intro (And.intro (And.intro @Scallv_fn @Scallv_val) (And.intro @Scallv_yl @Gd_tt)) (And.intro (And.intro @Gd_tf @Gd_n) (And.intro @Vcond_is @knowT_b))) (And.intro (And.intro (And.intro @knowT_u @Gq_t) (And.intro @Gq_f @Gq_u)) (And.intro (And.intro @OwnT_nil @OwnT_os) (And.intro @evO_none @evO_some))))))) (And.intro (And.intro @evs_nil @evs_cons) (And.intro @noTup_nil @noTup_cons)))
def vmWrd := (And.intro (And.intro (And.intro (And.intro (And.intro (And.intro (And.intro (And.intro @isAg_val @isAg_any) (And.intro @isAg_sl @isAg_fp)) (And.intro (And.intro @isAg_op @isAg_os) (And.intro @isAg_agg @isAg_arr))) (And.intro (And.intro (And.intro @isAg_tup @isAg_ifc) (And.intro @isAg_fn @isAg_mp)) (And.intro (And.intro @isAg_yl @isTup_val) (And.intro @isTup_any @isTup_sl)))) (And.intro (And.intro (And.intro (And.intro @isTup_fp @isTup_op) (And.intro @isTup_os @isTup_agg)) (And.intro (And.intro @isTup_arr @isTup_tup) (And.intro @isTup_ifc @isTup_fn))) (And.intro (And.intro (And.intro @isTup_mp @isTup_yl) (And.intro @lays_any @lays_sl)) (And.intro (And.intro @lays_fp @lays_op) (And.intro @lays_os @lays_agg))))) (And.intro (And.intro (And.intro (And.intro (And.intro @lays_arr @lays_tup) (And.intro @lays_ifc @lays_fn)) (And.intro (And.intro @lays_mp @lays_yl) (And.intro @pureT_val @pureT_any))) (And.intro (And.intro (And.intro @pureT_sl @pureT_fp) (And.intro @pureT_op @pureT_os)) (And.intro (And.intro @pureT_arr @pureT_mp) (And.intro @pureT_yl @width_val)))) (And.intro (And.intro (And.intro (And.intro @width_any @width_sl) (And.intro @width_fp @width_op)) (And.intro (And.intro @width_os @width_tup) (And.intro @width_ifc @width_fn))) (And.intro (And.intro (And.intro @width_mp @width_yl) (And.intro @width_agg @width_arr)) (And.intro (And.intro @widths_nil @widths_cons) (And.intro @pureT_agg @pureT_ifc)))))) (And.intro (And.intro (And.intro (And.intro (And.intro (And.intro @pureT_tup @pureL_nil) (And.intro @pureL_cons @lays_int)) (And.intro (And.intro @lays_bool @lays_string) (And.intro @lays_pointer @lays_slice))) (And.intro (And.intro (And.intro @lays_map @lays_func) (And.intro @lays_nilFunc @lays_nilIface)) (And.intro (And.intro @ev_t @ev_c) (And.intro @ev_g @getP_nil)))) (And.intro (And.intro (And.intro (And.intro @getP_agg @getP_arr) (And.intro @setP_nil @setP_agg)) (And.intro (And.intro @setP_arr @forget_nil) (And.intro @forget_cons @argsE_nil))) (And.intro (And.intro (And.intro @argsE_cons @ldOk_iff) (And.intro @elemsOf_sl @elemsOf_nil)) (And.intro (And.intro @elemsOf_os @elemsAt_nil) (And.intro @fills_nil @fills_cons))))) (And.intro (And.intro (And.intro (And.intro (And.intro @fillsOk_nil @fillsOk_cons) (And.intro @fillsPure_nil @fillsPure_cons)) (And.intro (And.intro @res_tmp @res_cell) (And.intro @res_nil @res_many))) (And.intro (And.intro (And.intro @resL_nil @resL_tmp) (And.intro @resL_cell @atEnd_ret)) (And.intro (And.intro @atEnd_nor @frzG_val) (And.intro @frzG_any @frzG_sl)))) (And.intro (And.intro (And.intro (And.intro @frzG_fp @frzG_arr) (And.intro @frzG_os @frzG_op)) (And.intro (And.intro @frzG_agg @frzG_tup) (And.intro @frzG_ifc @frzGL_nil))) (And.intro (And.intro (And.intro @frzGL_cons @frs_val) (And.intro @frs_any @frs_os)) (And.intro (And.intro @frs_agg @frs_arr) (And.intro @frs_tup @frs_ifc))))))) (And.intro (And.intro (And.intro @frsL_nil @frsL_cons) (And.intro @scalL_by8 @scalL_ts)) (And.intro (And.intro @frz_D @frzL_D) @frzD_s)))
theorem map_drop_s {α β : Type} {f : α → β} {l : List α} {i : Nat} : (l.map f).drop i = (l.drop i).map f := List.map_drop.symm
theorem map_take_s {α β : Type} {f : α → β} {l : List α} {i : Nat} : (l.map f).take i = (l.take i).map f := List.map_take.symm
theorem w64_u8 {b : UInt8} : IntKind.i64.wrap (b.toNat : Int) = b.toNat := wrap64_id (by omega) (by have := b.toNat_lt; omega)
theorem w8_nat {n : Nat} : IntKind.u8.wrap (n : Int) = ((UInt8.ofNat n).toNat : Int) := by
 rw [IntKind.wrap_u8, UInt8.toNat_ofNat']; omega
theorem rep_at {α : Type} {n i : Nat} {a : α} (h : i < n) : (List.replicate n a)[i]? = some a := by simp [h]
section
variable {a b c : Nat}
theorem cast_mul : (a : Int) * (b : Int) = ((a * b : Nat) : Int) := by_refl rfl
theorem cast_sub (h : b ≤ a) : (a : Int) - (b : Int) = ((a - b : Nat) : Int) := by omega
theorem cast_div : (a : Int) / (b : Int) = ((a / b : Nat) : Int) := by_refl rfl
theorem cast_mod : (a : Int) % (b : Int) = ((a % b : Nat) : Int) := by_refl rfl
variable {t : TypeId} {k2 : IntKind}
theorem b_shlN (h1 : b ≤ 63) (h2 : a * 2 ^ b ≤ 9223372036854775807) : binV t .shl (.int .i64 (a : Int)) (.int k2 (b : Int)) = some (.int .i64 ((a * 2 ^ b : Nat) : Int)) := by
 have e : (a : Int) * 2 ^ ((b : Int).toNat) = ((a * 2 ^ b : Nat) : Int) := by rw [Int.toNat_natCast, Int.natCast_mul, Int.natCast_pow]; rfl
 rw [b_shl (by omega) (by omega) (by rw [e]; omega) (by rw [e]; omega), e]
theorem b_shrN (h1 : b ≤ 63) : binV t .shr (.int .i64 (a : Int)) (.int k2 (b : Int)) = some (.int .i64 ((a / 2 ^ b : Nat) : Int)) := by
 have e : (a : Int) / 2 ^ ((b : Int).toNat) = ((a / 2 ^ b : Nat) : Int) := by rw [Int.toNat_natCast, Int.natCast_ediv, Int.natCast_pow]; rfl
 rw [b_shr (by omega) (by omega) (by omega), e]
variable {k : IntKind}
theorem b_remN (h : b ≠ 0) : binV t .rem (.int k (a : Int)) (.int k (b : Int)) = some (.int k ((a % b : Nat) : Int)) := by rw [b_rem (by omega) (by omega), Int.natCast_emod]
theorem b_quoN (h : b ≠ 0) (h2 : a ≤ 9223372036854775807) : binV t .quo (.int .i64 (a : Int)) (.int .i64 (b : Int)) = some (.int .i64 ((a / b : Nat) : Int)) := by rw [b_quo (by omega) (by omega) (by omega), Int.natCast_ediv]
end
theorem VCalls.toPureV {P : Program} {f : FuncId} {args : List TV} {R : TV → Prop} (h : VCalls P f args [] fun x H' => vget (frz H' x) R) : VPure P f args R :=
 VCalls.toPure (h.mono fun x H' hx => by
  cases hf : frz H' x with
  | none => rw [hf] at hx; exact hx
  | some y => rw [hf] at hx; exact hx)
abbrev mv_ (d s : Nat) : VO := ⟨some d, .p (.mov (.t s)), none⟩
abbrev po_ (d : Nat) (p : POp) : VO := ⟨some d, .p p, none⟩
abbrev so_ (d : Nat) (q : SOp) : VO := ⟨some d, .s q, none⟩
abbrev ci_ (n : Nat) : Opd := .c (.int .i64 (n : Int))
theorem go_of {P : Program} {f : FuncId} {fn : Func} {vc : VCode} {vr : List VR} (n : Nat) (hf : P.funcs[f]? = some fn) (ht : fn.body.bind (trC P fn.ntmps) = some (er vc)) (hr : trR P fn.results.toList = some vr) (hn : fn.ntmps = n) :
  ∀ ⦃args : List TV⦄ ⦃H : List Ob⦄ ⦃R : TV → List Ob → Prop⦄, args.length ≤ n → vwp P vc (atEnd vr R) (argsE 0 args) H → VCalls P f args H R := fun _ _ _ h1 h2 => vcalls_of hf ht hr (hn ▸ h1) h2
theorem gp_of {P : Program} {f : FuncId} {fn : Func} {vc : VCode} {vr : List VR} (n : Nat) (hf : P.funcs[f]? = some fn) (ht : fn.body.bind (trC P fn.ntmps) = some (er vc)) (hr : trR P fn.results.toList = some vr) (hn : fn.ntmps = n) :
  ∀ ⦃args : List TV⦄ ⦃H : List Ob⦄ ⦃R : TV → List Ob → Prop⦄ ⦃RP : Value → List Ob → Prop⦄, args.length ≤ n → vwp P vc (atEndP vr R RP) (argsE 0 args) H → VCallsP P f args H R RP := fun _ _ _ _ h1 h2 => vcallsP_of hf ht hr (hn ▸ h1) h2
theorem code_eq {c c' : VCode} (h : c = c') : ∀ (P : Program) (Q : VEx → Env → List Ob → Prop) (e : Env) (H : List Ob), vwp P c Q e H = vwp P c' Q e H := fun _ _ _ _ => by rw [h]
theorem vmLen {α : Type} : (∀ {l : List α} {i : Nat} {a : α}, (l.set i a).length = l.length) ∧ (∀ {l m : List α}, (l ++ m).length = l.length + m.length) ∧ (∀ {a : α} {l : List α}, (a :: l).length = l.length + 1) ∧ ([] : List α).length = 0 := ⟨List.length_set, List.length_append, List.length_cons, List.length_nil⟩
theorem VCalls.toFreshV {P : Program} {f : FuncId} {args : List TV} {R : TV → Prop} (h : VCalls P f args [] fun x H' => vget (frs H' x) R) : VFresh P f args R :=
 VCalls.toFresh (h.mono fun x H' hx => by
  cases hf : frs H' x with
  | none => rw [hf] at hx; exact hx
  | some y => rw [hf] at hx; exact hx)
theorem take_all {α : Type} {l : List α} {n : Nat} (h : l.length ≤ n) : l.take n = l := List.take_of_length_le h
theorem ite_t {α : Type} {c : Prop} [Decidable c] {a b : α} (h : c) : (if c then a else b) = a := if_pos h
theorem ite_f {α : Type} {c : Prop} [Decidable c] {a b : α} (h : ¬ c) : (if c then a else b) = b := if_neg h
theorem len_take_le {α : Type} {l : List α} {n : Nat} (h : n ≤ l.length) : (l.take n).length = n := by simp [h]
theorem take_drop_all {α : Type} {l : List α} {i : Nat} : (l.drop i).take (l.length - i) = l.drop i := List.take_of_length_le (by simp)
theorem add_sub2 {a b : Nat} : a + b - a = b := Nat.add_sub_cancel_left a b
theorem take_app {α : Type} {l m : List α} : (l ++ m).take l.length = l := List.take_left
theorem drop_app {α : Type} {l m : List α} : (l ++ m).drop l.length = m := List.drop_left
theorem add_sub1 {a b : Nat} : a + b - b = a := Nat.add_sub_cancel a b
def vmDat := (And.intro (And.intro (And.intro (And.intro (And.intro (And.intro (And.intro @take_app @drop_app) (And.intro @add_sub2 @take_drop_all)) (And.intro (And.intro @len_take_le @List.length_drop.{0}) (And.intro @ite_t @ite_f))) (And.intro (And.intro (And.intro @take_all @add_sub1) (And.intro @Nat.zero_le @get_if)) (And.intro (And.intro @List.nil_append.{0} @List.length_nil.{0}) (And.intro @List.length_cons.{0} @List.cons_append.{0})))) (And.intro (And.intro (And.intro (And.intro @List.getElem?_cons_zero.{0} @List.getElem?_cons_succ.{0}) (And.intro @List.set_cons_zero.{0} @List.set_cons_succ.{0})) (And.intro (And.intro @List.map_cons.{0,0} @List.map_nil.{0,0}) (And.intro @calm_int @calm_str))) (And.intro (And.intro (And.intro @true_and @and_true) (And.intro @List.take_zero.{0} @List.take_succ_cons.{0})) (And.intro (And.intro @List.drop_succ_cons.{0} @List.take_nil.{0}) (And.intro @List.drop_nil.{0} @Nat.zero_add))))) (And.intro (And.intro (And.intro (And.intro (And.intro @b_add @b_mul) (And.intro @b_sub @b_eql)) (And.intro (And.intro @b_neq @b_lss) (And.intro @b_leq @b_gtr))) (And.intro (And.intro (And.intro @b_geq @b_and) (And.intro @b_or @b_remN)) (And.intro (And.intro @b_quoN @b_xor8) (And.intro @ptrNil_p0 @ptrNil_op)))) (And.intro (And.intro (And.intro (And.intro @ptrNil_fp @ptrNil_i0) (And.intro @ptrNil_ifc @ptrNil_m0)) (And.intro (And.intro @ptrNil_mp @ptrNil_f0) (And.intro @ptrNil_fn @ptrNil_yl))) (And.intro (And.intro (And.intro @Bool.false_xor @Bool.true_xor) (And.intro @s_eql @s_neq)) (And.intro (And.intro @u_not @decide_true) (And.intro @decide_false @Bool.not_true)))))) (And.intro (And.intro (And.intro (And.intro (And.intro (And.intro @Bool.not_false @not_true_eq_false) (And.intro @not_false_eq_true @Bool.false_eq_true)) (And.intro (And.intro @Bool.true_eq_false @Option.bind_some.{0,0}) (And.intro @Option.map_some.{0,0} @Bool.and_self))) (And.intro (And.intro (And.intro @and_self @Nat.sub_zero) (And.intro @Nat.mul_one @List.length_map.{0,0})) (And.intro (And.intro @Int.toNat_natCast @List.getElem?_map.{0,0}) (And.intro @Int.natCast_nonneg @List.length_append.{0})))) (And.intro (And.intro (And.intro (And.intro @List.drop_zero.{0} @map_drop_s) (And.intro @map_take_s @map_unby)) (And.intro (And.intro @all_isBy @cast_add) (And.intro @cast_lt @cast_le))) (And.intro (And.intro (And.intro @cast_eq @cast_nn) (And.intro @List.replicate_zero.{0} @List.take_length.{0})) (And.intro (And.intro @List.length_set.{0} @List.length_replicate.{0}) (And.intro @w64_u8 @wrap64_id))))) (And.intro (And.intro (And.intro (And.intro @w8_nat @List.set_set.{0}) (And.intro @List.getElem?_nil.{0} @rep_at)) (And.intro (And.intro @cast_mul @cast_sub) (And.intro @cast_div @cast_mod))) (And.intro @b_shlN @b_shrN))))
end Go.Proofs.YtfgljddikcghhaaDoor

namespace Go.Proofs.YtfgljddikcghhaaDoor
open Go.RowKit
variable [Globs]
set_option linter.unusedSectionVars false
set_option linter.unusedSimpArgs false
set_option linter.unusedVariables false
set_option autoImplicit false

/-- 't := func..; defer t()': the slot, the function, the captured slots. -/
def tmpsOf : List Operand → Option (List Nat)
 | [] => some []
 | .tmp t :: r => (tmpsOf r).map (t :: ·)
 | _ => none
theorem tmpsOf_is : ∀ {l : List Operand} {cs : List Nat}, tmpsOf l = some cs → l = cs.map .tmp
 | [], cs, h => by simp only [tmpsOf, Option.some.injEq] at h; subst h; rfl
 | .tmp t :: r, cs, h => by
  simp only [tmpsOf, Option.map_eq_some_iff] at h
  obtain ⟨x, h, rfl⟩ := h
  rw [tmpsOf_is h, List.map_cons]
 | .const _ :: r, cs, h => by simp [tmpsOf] at h
 | .global _ :: r, cs, h => by simp [tmpsOf] at h
 | .func _ :: r, cs, h => by simp [tmpsOf] at h
def defOf : Code → Option (Nat × FuncId × List Nat)
 | .region _ ops false => (match ops.toList with
  | [⟨some t, .makeFunc (.func g) fi caps, _, _, _, none⟩, ⟨none, .defer ⟨.value (.tmp t'), ar, _⟩, _, _, _, none⟩] => (match fi.toList, ar.toList with
   | [], [] => if t = t' then (tmpsOf caps.toList).map fun cs => (t, g, cs) else none
   | _, _ => none)
  | _ => none)
 | _ => none
theorem defOf_is {c : Code} {t : Nat} {g : FuncId} {cs : List Nat} (h : defOf c = some (t, g, cs)) : ∃ (id : Nat) (ty1 ty2 : TypeId) (p1 p2 : String) (a1 a2 : Array Edge) (ts : Array TypeId),
  c = .region id #[⟨some t, .makeFunc (.func g) #[] (cs.map Operand.tmp).toArray, ty1, p1, a1, none⟩, ⟨none, .defer ⟨.value (.tmp t), #[], ts⟩, ty2, p2, a2, none⟩] false := by
 unfold defOf at h
 split at h
 ·rename_i id ops
  split at h
  ·rename_i t1 g1 fi caps ty1 p1 a1 t2 ar ts ty2 p2 a2 hops
   split at h
   ·rename_i h1 h2
    split at h
    ·rename_i ht
     subst ht
     obtain ⟨x, hx, e⟩ := Option.map_eq_some_iff.1 h
     cases e
     have := tmpsOf_is hx
     obtain ⟨fi⟩ := fi
     obtain ⟨ar⟩ := ar
     obtain ⟨caps⟩ := caps
     obtain ⟨ops⟩ := ops
     simp only at h1 h2 this hops
     subst h1 h2 this hops
     exact ⟨id, ty1, ty2, p1, p2, a1, a2, ts, rfl⟩
    ·cases h
   ·cases h
  ·cases h
 ·cases h
def defOk (t : Nat) (g : FuncId) (cs : List Nat) : Code → VCode → Bool
 | .seq a b, .seq A B => (match A with
  | .dead => decide (defOf a = some (t, g, cs))
  | _ => defOk t g cs b B)
 | _, _ => false

/-- The condition of such a body. -/
def vwpG (P : Program) (t : Nat) (cs : List Nat) (Q0 : VEx → Env → List Ob → Prop) (Q1 : List TV → VEx → Env → List Ob → Prop) : VCode → Env → List Ob → Prop
 | .seq A B, e, H => (match A with
  | .dead => (∀ s ∈ cs, isTup (get e s) = false) ∧ vwp P B (Q1 (cs.map (get e))) ((t, .any) :: e) H
  | A => vwp P A (fun x e H => match x with | .nor => vwpG P t cs Q0 Q1 B e H | .exit i => Q0 (.exit i) e H | .ret => Q0 .ret e H | .pan u => Q0 (.pan u) e H) e H)
 | _, _, _ => False

section
variable {P : Program}
theorem trC_seq_er {N : Nat} {a b : Code} {A B : VCode} (h : trC P N (.seq a b) = some (.seq (er A) (er B))) : trC P N a = some (er A) ∧ trC P N b = some (er B) := by
 simp only [trC] at h
 split at h
 ·rename_i x y hx hy
  simp only [Option.some.injEq, VCode.seq.injEq] at h
  obtain ⟨rfl, rfl⟩ := h
  exact ⟨hx, hy⟩
 ·simp at h
theorem vwpG_live {t : Nat} {cs : List Nat} {Q0 : VEx → Env → List Ob → Prop} {Q1 : List TV → VEx → Env → List Ob → Prop} {A B : VCode} {e : Env} {H : List Ob} (hA : A ≠ .dead) (h : vwpG P t cs Q0 Q1 (.seq A B) e H) :
  vwp P A (fun x e H => match x with | .nor => vwpG P t cs Q0 Q1 B e H | .exit i => Q0 (.exit i) e H | .ret => Q0 .ret e H | .pan u => Q0 (.pan u) e H) e H := by
 cases A <;> first | (exact (hA rfl).elim) | (rw [vwpG] at h <;> first | exact h | exact hA)

theorem vwpG_sound {N t : Nat} {g : FuncId} {cs : List Nat} (htN : t < N) {Q0 : VEx → Env → List Ob → Prop} {Q1 : List TV → VEx → Env → List Ob → Prop} {B0 : Nat} {QQ : Exit → Act → World → Prop} : ∀ (code : Code) (vc : VCode), trC P N code = some (er vc) → defOk t g cs code vc = true →
  ∀ {e : Env} {H : List Ob} {β : Nat → Nat → Option (Nat × Nat)} {F : Nat → Prop} {w : World} {a : Act} {D : List Deferred}, vwpG P t cs Q0 Q1 vc e H → Sim ⟨β, H, F⟩ w → Fr N D ⟨β, H, F⟩ w e a → Marks [] B0 ⟨β, H, F⟩ w D → B0 ≤ w.heap.size →
  (∀ x e' H' β' F' w' a' D', Q0 x e' H' → Sim ⟨β', H', F'⟩ w' → Fr N D' ⟨β', H', F'⟩ w' e' a' → Marks [] B0 ⟨β', H', F'⟩ w' D' → Later ⟨β, H, F⟩ w ⟨β', H', F'⟩ w' → QQ x.ex a' w') →
  (∀ (caps : List TV) (vs : List Value) x e' H' β1 H1 F1 w1 β' F' w' a' D1 D', Q1 caps x e' H' → caps.length = cs.length → Sim ⟨β1, H1, F1⟩ w1 → RepL ⟨β1, H1, F1⟩ w1 caps vs → Marks [] B0 ⟨β1, H1, F1⟩ w1 D1 → Later ⟨β, H, F⟩ w ⟨β1, H1, F1⟩ w1 →
   Sim ⟨β', H', F'⟩ w' → Fr N D' ⟨β', H', F'⟩ w' e' a' → Marks ({ target := .fn (.func g) vs.toArray, args := #[] } :: D1) w1.heap.size ⟨β', H', F'⟩ w' D' → Later ⟨β1, H1, F1⟩ w1 ⟨β', H', F'⟩ w' → QQ x.ex a' w') → code.wpIn (fz none) 0 P QQ a w := by
 intro code
 induction code with
 | seq a b iha ihb =>
  intro vc ht hd e H β F w act D h hs hf hm hB k0 k1
  cases vc with
  | seq A B =>
   rw [er] at ht
   obtain ⟨hta, htb⟩ := trC_seq_er ht
   by_cases hA : A = .dead
   ·subst hA
    have hda : defOf a = some (t, g, cs) := by simpa [defOk] using hd
    rw [vwpG] at h
    obtain ⟨h1, h2⟩ := h
    obtain ⟨id, ty1, ty2, p1, p2, a1, a2, ts, rfl⟩ := defOf_is hda
    refine wpIn_seq (wpIn_region_list ?_)
    have hvs : RepL ⟨β, H, F⟩ w (cs.map (get e)) ((cs.map Operand.tmp).map act.eval) := by
     have := repL_map hf.env (cs.map Operand.tmp) (by
      intro x hx
      obtain ⟨s, hs, rfl⟩ := List.mem_map.1 hx
      exact h1 s hs)
     simpa [List.map_map, Function.comp_def, trO, Opd.ev] using this
    have e1 : ∀ (m : Value), (act.tmps.setIfInBounds t m).getD t undef = m := fun m => by
     rw [Array.getD_eq_getD_getElem?, Array.getElem?_setIfInBounds_self_of_lt (by rw [hf.size]; exact htN)]; rfl
    refine wpListIn_plain rfl fun K hK => ⟨fun _ _ => trivial, ?_⟩
    refine hK _ _ ?_
    refine wpListIn_plain rfl fun K hK => ⟨fun _ _ => trivial, ?_⟩
    rw [show (fz none).round = none from rfl, Oper.semAt_none]
    simp only [execOp, resolve, Act.eval, Act.put, Deferred.ofValue, Sem.run_bind, Sem.run_pure, Result.andThen_ok, e1]
    refine hK _ _ ?_
    refine wpListIn_nil ?_
    refine vwp_sound (ro := none) (nn := 0) (B := w.heap.size) (D := { target := .fn (.func g) ((cs.map Operand.tmp).map act.eval).toArray, args := #[] } :: D) (D0 := { target := .fn (.func g) ((cs.map Operand.tmp).map act.eval).toArray, args := #[] } :: D) B (.inl rfl) htb h2 hs ⟨⟨fun s => ?_, hf.env.2⟩, ?_, ?_⟩ Marks.nil (Nat.le_refl _) ?_
    ·rw [get_cons]
     by_cases hts : t = s
     ·rw [if_pos hts]; exact Rep.any
     ·rw [if_neg hts]
      have := hf.env.1 s
      have e2 : ∀ (v : Value), (act.tmps.setIfInBounds t v).getD s undef = act.tmps.getD s undef := fun v => by
       simp only [Array.getD_eq_getD_getElem?]
       rw [Array.getElem?_setIfInBounds_ne hts]
      simpa [Act.put, e2] using this
    ·simp [Act.put, hf.size]
    ·simp [Act.put, hf.defers, Array.map_map, Function.comp_def, Act.eval]
    ·intro x e' H' β' F' w' a' D' m1 m2 m3 m4 m5
     exact k1 _ _ x e' H' β H F w β' F' w' a' D D' m1 (by simp) hs hvs hm (Later.refl _ _) m2 m3 m4 m5
   ·have h' := vwpG_live hA h
    have hdb : defOk t g cs b B = true := by
     cases A <;> first | exact (hA rfl).elim | simpa [defOk] using hd
    refine wpIn_seq (vwp_sound (ro := none) (nn := 0) A (.inl rfl) hta h' hs hf hm hB ?_)
    intro x e' H' β' F' w' a' D' m1 m2 m3 m4 m5
    cases x with
    | nor => exact ihb B htb hdb m1 m2 m3 m4 (Nat.le_trans hB m5.size) (fun x e2 H2 β2 F2 w2 a2 D2 n1 n2 n3 n4 n5 => k0 x e2 H2 β2 F2 w2 a2 D2 n1 n2 n3 n4 (m5.trans n5)) fun caps vs x e2 H2 β1 H1 F1 w1 β2 F2 w2 a2 D1 D2 n1 n2 n3 n4 n5 n6 => k1 caps vs x e2 H2 β1 H1 F1 w1 β2 F2 w2 a2 D1 D2 n1 n2 n3 n4 n5 (m5.trans n6)
    | exit i => exact k0 (.exit i) _ _ _ _ _ _ _ m1 m2 m3 m4 m5
    | ret => exact k0 .ret _ _ _ _ _ _ _ m1 m2 m3 m4 m5
    | pan u => exact k0 (.pan u) _ _ _ _ _ _ _ m1 m2 m3 m4 m5
  | _ => simp [defOk] at hd
 | _ => intro vc ht hd; cases vc <;> simp [defOk] at hd

/-- Where nobody panics the closure does nothing. -/
def IdleV (P : Program) (g : FuncId) (n : Nat) : Prop := ∀ (vs : List Value) (w : World), vs.length = n → CallsDIn Fence.wide 0 P g vs.toArray .returning w fun e u' w' => e = .returned (.tuple #[]) ∧ u' = .returning ∧ w' = w
/-- What the closure does with a panic. -/
def CatchV (P : Program) (g : FuncId) (caps : List TV) (u : Value) (H : List Ob) (R : List Ob → Prop) : Prop := ∀ β F w vs, Sim ⟨β, H, F⟩ w → RepL ⟨β, H, F⟩ w caps vs →
 CallsDIn Fence.wide 0 P g vs.toArray (.panicking [{ v := u, recovered := false }]) w fun e u' w' => e = .returned (.tuple #[]) ∧ u' = .panicking [{ v := u, recovered := true }] ∧ ∃ β' H' F', Sim ⟨β', H', F'⟩ w' ∧ Later ⟨β, H, F⟩ w ⟨β', H', F'⟩ w' ∧ R H'
/-- The end of a guarded body. -/
def atEndG (P : Program) (vr : List VR) (g : FuncId) (R : TV → List Ob → Prop) (caps : List TV) : VEx → Env → List Ob → Prop
 | .nor, e, H => res vr e H fun x => R x H
 | .ret, e, H => res vr e H fun x => R x H
 | .exit _, _, _ => False
 | .pan u, e, H => CatchV P g caps u H fun H' => res vr e H' fun x => R x H'

/-- A FUNCTION that guards itself: out of its body's condition. -/
theorem vcallsG_of {f g : FuncId} {fn : Func} {vc : VCode} {vr : List VR} {t : Nat} {cs : List Nat} {args : List TV} {H : List Ob} {R : TV → List Ob → Prop} (hf : P.funcs[f]? = some fn) (ht : fn.body.bind (trC P fn.ntmps) = some (er vc)) (hd : fn.body.map (fun b => defOk t g cs b vc) = some true) (hr : trR P fn.results.toList = some vr)
  (hgo : isGo P g = true) (htn : t < fn.ntmps) (hn : args.length ≤ fn.ntmps) (hi : IdleV P g cs.length) (h : vwpG P t cs (atEnd vr R) (atEndG P vr g R) vc (argsE 0 args) H) : VCalls P f args H R := by
 obtain ⟨code, hb, ht⟩ := Option.bind_eq_some_iff.1 ht
 have hd : defOk t g cs code vc = true := by simpa [hb] using hd
 intro β F w vs hs hv
 obtain ⟨hl, hget⟩ := RepL.get hv
 refine (callsIn_wide (n := 0)).1 (callsIn_of_wp_marks hf hb trivial ?_)
 refine vwpG_sound (B0 := w.heap.size) (D := []) htn code vc ht hd h hs ⟨⟨fun s => ?_, hs.glob⟩, by simp; omega, rfl⟩ Marks.nil (Nat.le_refl _) ?_ ?_
 ·rw [get_argsE]
  simp only [Nat.zero_le, if_true, Nat.sub_zero]
  cases hx : args[s]? with
  | none => exact Rep.any
  | some x =>
   obtain ⟨v, hv1, hv2⟩ := hget s x hx
   have hs' : s < vs.length := (List.getElem?_eq_some_iff.1 hv1).1
   have : ((vs.toArray ++ Array.replicate (fn.ntmps - vs.toArray.size) undef).getD s undef) = v := by
    rw [Array.getD_eq_getD_getElem?, Array.getElem?_append_left (by simpa using hs')]
    simp [hv1]
   rw [this]; exact hv2
 ·intro x e' H' β' F' w' a' D' k1 k2 k3 km k4
  have fin : res vr e' H' (fun x => R x H') → LeavesInM Fence.wide 0 P fn a'.tmps (fun e w' => ∃ v x β' H' F', e = .returned v ∧ R x H' ∧ Sim ⟨β', H', F'⟩ w' ∧ Later ⟨β, H, F⟩ w ⟨β', H', F'⟩ w' ∧ Rep ⟨β', H', F'⟩ w' x v) a'.defers .returning w' := fun h => by
   rw [k3.defers]
   obtain ⟨wF, e1, e2, e3, e4⟩ := Marks.shut (D0 := []) (u := .returning) (by simp) (P := P) (FF := Fence.wide) (n := 0) (fn := fn) (tmps := a'.tmps) (R := fun e w' => ∃ v x β' H' F', e = .returned v ∧ R x H' ∧ Sim ⟨β', H', F'⟩ w' ∧ Later ⟨β, H, F⟩ w ⟨β', H', F'⟩ w' ∧ Rep ⟨β', H', F'⟩ w' x v) km k2
   obtain ⟨y, v, r1, r2, r3⟩ := res_run (fn := fn) (a := a') e2 ⟨fun s => Rep.mono e3 (k3.env.1 s), e2.glob⟩ hr h
   exact e1 ⟨v, r1, v, y, β', H', F', rfl, r3, e2, e4 _ _ (Nat.le_refl _) k4, r2⟩
  cases x with
  | nor => exact fin k1
  | ret => exact fin k1
  | exit i => exact k1.elim
  | pan u => exact k1.elim
 ·intro caps cvs x e' H' β1 H1 F1 w1 β' F' w' a' D1 D' k1 kl s1 s2 s3 s4 k2 k3 km k4
  have hlen : cvs.length = cs.length := by rw [← kl]; exact (RepL.get s2).1.symm
  have fin : ∀ {β2 : Nat → Nat → Option (Nat × Nat)} {H2 : List Ob} {F2 : Nat → Prop} {w2 : World}, Sim ⟨β2, H2, F2⟩ w2 → Later ⟨β1, H1, F1⟩ w1 ⟨β2, H2, F2⟩ w2 → (∀ s, Rep ⟨β2, H2, F2⟩ w2 (get e' s) (a'.tmps.getD s undef)) → res vr e' H2 (fun x => R x H2) →
    LeavesInM Fence.wide 0 P fn a'.tmps (fun e w' => ∃ v x β' H' F', e = .returned v ∧ R x H' ∧ Sim ⟨β', H', F'⟩ w' ∧ Later ⟨β, H, F⟩ w ⟨β', H', F'⟩ w' ∧ Rep ⟨β', H', F'⟩ w' x v) D1 .returning w2 := fun {β2 H2 F2 w2} t1 t2 tm h => by
   obtain ⟨wF, e1, e2, e3, e4⟩ := Marks.shut (D0 := []) (u := .returning) (by simp) (P := P) (FF := Fence.wide) (n := 0) (fn := fn) (tmps := a'.tmps) (R := fun e w' => ∃ v x β' H' F', e = .returned v ∧ R x H' ∧ Sim ⟨β', H', F'⟩ w' ∧ Later ⟨β, H, F⟩ w ⟨β', H', F'⟩ w' ∧ Rep ⟨β', H', F'⟩ w' x v) (s3.later t2) t1
   obtain ⟨y, v, r1, r2, r3⟩ := res_run (fn := fn) (a := a') e2 ⟨fun s => Rep.mono e3 (tm s), e2.glob⟩ hr h
   exact e1 ⟨v, r1, v, y, β2, H2, F2, rfl, r3, e2, e4 _ _ (Nat.le_refl _) (s4.trans t2), r2⟩
  have hinv : ∀ (w : World), (invoke (.fn (.func g) cvs.toArray) #[]).run P w = .ok (.enter g cvs.toArray) w := fun w => by
   simp only [invoke, callFunc_go hgo]
   simp
  have hend : res vr e' H' (fun x => R x H') → LeavesInM Fence.wide 0 P fn a'.tmps (fun e w' => ∃ v x β' H' F', e = .returned v ∧ R x H' ∧ Sim ⟨β', H', F'⟩ w' ∧ Later ⟨β, H, F⟩ w ⟨β', H', F'⟩ w' ∧ Rep ⟨β', H', F'⟩ w' x v) a'.defers .returning w' := fun h => by
   rw [k3.defers]
   obtain ⟨wF, e1, e2, e3, e4⟩ := Marks.shut (u := .returning) (by simp) (P := P) (FF := Fence.wide) (n := 0) (fn := fn) (tmps := a'.tmps) (R := fun e w' => ∃ v x β' H' F', e = .returned v ∧ R x H' ∧ Sim ⟨β', H', F'⟩ w' ∧ Later ⟨β, H, F⟩ w ⟨β', H', F'⟩ w' ∧ Rep ⟨β', H', F'⟩ w' x v) km k2
   refine e1 ⟨by simp, .inr ⟨fun h => by simp [Fence.wide] at h, .func g, cvs.toArray, g, cvs.toArray, rfl, hinv _, fun _ _ => trivial, ?_⟩⟩
   refine CallsDIn.mono (hi cvs wF hlen) ?_
   rintro e u' w2 ⟨rfl, rfl, rfl⟩
   exact fin e2 (e4 _ _ (Nat.le_refl _) k4) (fun s => Rep.mono e3 (k3.env.1 s)) h
  cases x with
  | nor => exact hend k1
  | ret => exact hend k1
  | exit i => exact k1.elim
  | pan u =>
   show LeavesInM Fence.wide 0 P fn a'.tmps _ a'.defers (.panicking [{ v := u, recovered := false }]) w'
   rw [k3.defers]
   obtain ⟨wF, e1, e2, e3, e4⟩ := Marks.shut (u := .panicking [{ v := u, recovered := false }]) (by simp) (P := P) (FF := Fence.wide) (n := 0) (fn := fn) (tmps := a'.tmps) (R := fun e w' => ∃ v x β' H' F', e = .returned v ∧ R x H' ∧ Sim ⟨β', H', F'⟩ w' ∧ Later ⟨β, H, F⟩ w ⟨β', H', F'⟩ w' ∧ Rep ⟨β', H', F'⟩ w' x v) km k2
   have hl1 := e4 _ _ (Nat.le_refl _) k4
   refine e1 ⟨by simp, .inr ⟨fun h => by simp [Fence.wide] at h, .func g, cvs.toArray, g, cvs.toArray, rfl, hinv _, fun _ _ => trivial, ?_⟩⟩
   refine CallsDIn.mono (k1 β' F' wF cvs e2 (RepL.mono (hl1.mono s1) s2)) ?_
   rintro e u' w2 ⟨rfl, rfl, β2, H2, F2, t1, t2, t3⟩
   exact fin t1 (hl1.trans t2) (fun s => Rep.mono (t2.mono e2) (Rep.mono e3 (k3.env.1 s))) t3
end
end Go.Proofs.YtfgljddikcghhaaDoor

namespace Go.Proofs.YtfgljddikcghhaaDoor
open Go.RowKit
variable [Globs]
set_option linter.unusedSectionVars false
set_option linter.unusedSimpArgs false
set_option linter.unusedVariables false
set_option autoImplicit false

section
variable {t : TypeId} {a b : Nat} {k2 : IntKind}
theorem wrap8 {n : Nat} (h : n < 256) : IntKind.u8.wrap (n : Int) = n := by rw [IntKind.wrap_u8]; omega
theorem bv8 {n : Nat} : (BitVec.ofInt 8 (n : Int)).toNat = n % 256 := by
 rw [BitVec.toNat_ofInt]; omega
theorem b_add8 : binV t .add (.int .u8 (a : Int)) (.int .u8 (b : Int)) = some (.int .u8 (((a + b) % 256 : Nat) : Int)) := by
 rw [show binV t .add (.int .u8 (a : Int)) (.int .u8 (b : Int)) = some (.int .u8 (IntKind.u8.wrap ((a : Int) + b))) from rfl, IntKind.wrap_u8]
 congr 2
theorem b_and8 (h1 : a < 256) (h2 : b < 256) : binV t .and (.int .u8 (a : Int)) (.int .u8 (b : Int)) = some (.int .u8 ((a &&& b : Nat) : Int)) := by
 rw [show binV t .and (.int .u8 (a : Int)) (.int .u8 (b : Int)) = some (.int .u8 (IntKind.u8.wrap ((BitVec.ofInt 8 a &&& BitVec.ofInt 8 b).toNat : Int))) from rfl, BitVec.toNat_and, bv8, bv8, Nat.mod_eq_of_lt (by omega), Nat.mod_eq_of_lt (by omega)]
 have := Nat.and_le_left (n := a) (m := b)
 rw [wrap8 (by omega)]
theorem b_shr8 (h1 : a < 256) (h2 : b ≤ 8) : binV t .shr (.int .u8 (a : Int)) (.int k2 (b : Int)) = some (.int .u8 ((a / 2 ^ b : Nat) : Int)) := by
 have e : binOp .shr t (.int .u8 (a : Int)) (.int k2 (b : Int)) = pure (.int .u8 ((a / 2 ^ b : Nat) : Int)) := by
  show Op.shift .shr .u8 a k2 b = _
  unfold Op.shift
  rw [if_neg (by omega)]
  have hm : min ((b : Int)).toNat IntKind.u8.bits = b := by
   have : IntKind.u8.bits = 8 := rfl
   omega
  simp only [hm]
  rw [Int.fdiv_eq_ediv_of_nonneg _ (by exact Int.le_of_lt (Int.pow_pos (by omega)))]
  have hle : a / 2 ^ b ≤ a := Nat.div_le_self _ _
  have e2 : (a : Int) / 2 ^ b = ((a / 2 ^ b : Nat) : Int) := by rw [Int.natCast_ediv, Int.natCast_pow]; rfl
  rw [e2]
 unfold binV; rw [e]; rfl
theorem b_quo8 (h : b ≠ 0) (h1 : a < 256) : binV t .quo (.int .u8 (a : Int)) (.int .u8 (b : Int)) = some (.int .u8 ((a / b : Nat) : Int)) := by
 have hz : ¬ (b : Int) = 0 := by omega
 have hle : a / b ≤ a := Nat.div_le_self _ _
 have e2 : (a : Int).tdiv (b : Int) = ((a / b : Nat) : Int) := by rw [Int.tdiv_eq_ediv_of_nonneg (by omega)]; rfl
 have e : binOp .quo t (.int .u8 (a : Int)) (.int .u8 (b : Int)) = pure (.int .u8 ((a / b : Nat) : Int)) := by
  unfold binOp
  simp only [ne_eq, not_true_eq_false, if_false, Op.intDiv, hz, e2, wrap8 (show a / b < 256 by omega)]
 unfold binV; rw [e]; rfl
end
end Go.Proofs.YtfgljddikcghhaaDoor

namespace Go.Proofs.YtfgljddikcghhaaDoor
open Go.RowKit
variable [Globs]
set_option linter.unusedSectionVars false
set_option linter.unusedVariables false
section
variable {t : TypeId} {a b : Nat} {k2 : IntKind}
theorem wrap32 {n : Nat} (h : n < 4294967296) : IntKind.u32.wrap (n : Int) = n := by rw [IntKind.wrap_u32']; omega
theorem bv32 {n : Nat} : (BitVec.ofInt 32 (n : Int)).toNat = n % 4294967296 := by
 rw [BitVec.toNat_ofInt]; omega
theorem w32_u8 {b : UInt8} : IntKind.u32.wrap (b.toNat : Int) = ((b.toNat : Nat) : Int) := wrap32 (by have := b.toNat_lt; omega)
theorem w64_nat (h : a ≤ 9223372036854775807) : IntKind.i64.wrap (a : Int) = (a : Int) := wrap64_id (by omega) (by omega)
theorem b_sub32 (h : b ≤ a) (h2 : a < 4294967296) : binV t .sub (.int .u32 (a : Int)) (.int .u32 (b : Int)) = some (.int .u32 ((a - b : Nat) : Int)) := by
 rw [show binV t .sub (.int .u32 (a : Int)) (.int .u32 (b : Int)) = some (.int .u32 (IntKind.u32.wrap ((a : Int) - b))) from rfl, IntKind.wrap_u32']
 congr 2; omega
theorem b_and32 (h1 : a < 4294967296) (h2 : b < 4294967296) : binV t .and (.int .u32 (a : Int)) (.int .u32 (b : Int)) = some (.int .u32 ((a &&& b : Nat) : Int)) := by
 rw [show binV t .and (.int .u32 (a : Int)) (.int .u32 (b : Int)) = some (.int .u32 (IntKind.u32.wrap ((BitVec.ofInt 32 a &&& BitVec.ofInt 32 b).toNat : Int))) from rfl, BitVec.toNat_and, bv32, bv32, Nat.mod_eq_of_lt (by omega), Nat.mod_eq_of_lt (by omega)]
 have := Nat.and_le_left (n := a) (m := b)
 rw [wrap32 (by omega)]
theorem b_or32 (h1 : a < 4294967296) (h2 : b < 4294967296) : binV t .or (.int .u32 (a : Int)) (.int .u32 (b : Int)) = some (.int .u32 ((a ||| b : Nat) : Int)) := by
 rw [show binV t .or (.int .u32 (a : Int)) (.int .u32 (b : Int)) = some (.int .u32 (IntKind.u32.wrap ((BitVec.ofInt 32 a ||| BitVec.ofInt 32 b).toNat : Int))) from rfl, BitVec.toNat_or, bv32, bv32, Nat.mod_eq_of_lt (by omega), Nat.mod_eq_of_lt (by omega)]
 have := Nat.or_lt_two_pow (n := 32) (x := a) (y := b) (by omega) (by omega)
 rw [wrap32 (by omega)]
theorem b_shl32 (h2 : b ≤ 31) (h4 : a * 2 ^ b < 4294967296) : binV t .shl (.int .u32 (a : Int)) (.int k2 (b : Int)) = some (.int .u32 ((a * 2 ^ b : Nat) : Int)) := by
 have e : binOp .shl t (.int .u32 (a : Int)) (.int k2 (b : Int)) = pure (.int .u32 ((a * 2 ^ b : Nat) : Int)) := by
  show Op.shift .shl .u32 a k2 b = _
  unfold Op.shift
  rw [if_neg (by omega)]
  have hm : min ((b : Int)).toNat IntKind.u32.bits = b := by
   have : IntKind.u32.bits = 32 := rfl
   omega
  simp only [hm]
  have e2 : (a : Int) * 2 ^ b = ((a * 2 ^ b : Nat) : Int) := by rw [Int.natCast_mul, Int.natCast_pow]; rfl
  rw [e2, wrap32 h4]
 unfold binV; rw [e]; rfl
theorem b_shr32 (h2 : b ≤ 32) : binV t .shr (.int .u32 (a : Int)) (.int k2 (b : Int)) = some (.int .u32 ((a / 2 ^ b : Nat) : Int)) := by
 have e : binOp .shr t (.int .u32 (a : Int)) (.int k2 (b : Int)) = pure (.int .u32 ((a / 2 ^ b : Nat) : Int)) := by
  show Op.shift .shr .u32 a k2 b = _
  unfold Op.shift
  rw [if_neg (by omega)]
  have hm : min ((b : Int)).toNat IntKind.u32.bits = b := by
   have : IntKind.u32.bits = 32 := rfl
   omega
  simp only [hm]
  rw [Int.fdiv_eq_ediv_of_nonneg _ (by exact Int.le_of_lt (Int.pow_pos (by omega)))]
  have e2 : (a : Int) / 2 ^ b = ((a / 2 ^ b : Nat) : Int) := by rw [Int.natCast_ediv, Int.natCast_pow]; rfl
  rw [e2]
 unfold binV; rw [e]; rfl
end
end Go.Proofs.YtfgljddikcghhaaDoor

namespace Go.Proofs.YtfgljddikcghhaaDoor
open Go.RowKit
variable [Globs]
set_option linter.unusedSectionVars false
set_option linter.unusedVariables false

variable {P : Program}
/-- A CALL THAT LEAVES NOTHING BEHIND, AND YIELDS NEW MEMORY ALONE, or ends in a panic. -/
def VFreshP (P : Program) (f : FuncId) (args : List TV) (R : TV → Prop) (RP : Value → Prop) : Prop :=
 ∀ (β : Nat → Nat → Option (Nat × Nat)) (F : Nat → Prop) (w : World) (vs : List Value), ((∀ b, F b → b < w.heap.size) ∧ GlobOk F w) → RepL ⟨β, [], F⟩ w args vs →
  Calls P f vs.toArray w fun e w' => ∃ F', Stays F w F' w' ∧ ((∃ v x, e = .returned v ∧ R x ∧ Rep ⟨β, [], fun b => F' b ∧ w.heap.size ≤ b⟩ w' x v) ∨ ∃ u, e = .panicked [{ v := u, recovered := false }] ∧ RP u)
theorem VFreshP.mono {f : FuncId} {args : List TV} {R R' : TV → Prop} {RP RP' : Value → Prop} (h : VFreshP P f args R RP) (hr : ∀ x, R x → R' x) (hp : ∀ u, RP u → RP' u) : VFreshP P f args R' RP' :=
 fun β F w vs hF hv => (h β F w vs hF hv).mono fun _ _ ⟨F', h1, h2⟩ => ⟨F', h1, h2.imp (fun ⟨v, x, k1, k2, k3⟩ => ⟨v, x, k1, hr _ k2, k3⟩) fun ⟨u, k1, k2⟩ => ⟨u, k1, hp _ k2⟩⟩
theorem VCallsP.toFreshP {f : FuncId} {args : List TV} {R : TV → Prop} {RP : Value → Prop} (h : VCallsP P f args [] (fun x H' => match frs H' x with | some y => R y | none => False) fun u _ => RP u) : VFreshP P f args R RP := by
 intro β F w vs hF hv
 have hs : Sim ⟨β, [], F⟩ w := ⟨fun id o ho => by simp at ho, fun i j x y b o o' hx => by simp at hx, fun b hb => by obtain ⟨i, o, off, h1, _⟩ := hb; simp at h1, hF.1, hF.2⟩
 have hno : ∀ b, ¬ Ctx.own ⟨β, [], F⟩ b := fun b hb => by obtain ⟨i, o, off, h1, _⟩ := hb; simp at h1
 refine (h β F w vs hs hv).mono ?_
 rintro _ w' ⟨β', H', F', hs', hl, hc⟩
 have hnew : ∀ b, Ctx.own ⟨β', H', F'⟩ b → w.heap.size ≤ b := fun b hb => by
  rcases Nat.lt_or_ge b w.heap.size with h1 | h1
  ·exact absurd (hl.oldOwn b h1 hb) (hno b)
  ·exact h1
 refine ⟨fun b => F b ∨ Ctx.own ⟨β', H', F'⟩ b, ⟨hl.os, hl.tape, hl.output, hl.size, fun b hb => hl.same b hb (hno b), fun b hb => .inl hb, fun b hb hF' => hF'.elim id fun h => ?_, fun b hF' => hF'.elim (fun h => Nat.lt_of_lt_of_le (hF.1 b h) hl.size) hs'.own_lt⟩, ?_⟩
 ·have := hnew b h; omega
 ·rcases hc with ⟨v, x, rfl, hR, hx⟩ | ⟨u, rfl, hR⟩
  ·split at hR
   ·rename_i y hy
    have hr := frs_rep1 hs' hy hx
    exact .inl ⟨v, y, rfl, hR, Rep.mono (Mono.ofF (F := Ctx.own ⟨β', H', F'⟩) (F' := fun b => (F b ∨ Ctx.own ⟨β', H', F'⟩ b) ∧ w.heap.size ≤ b) fun b hb => ⟨.inr hb, hnew b hb⟩) hr⟩
   ·exact hR.elim
  ·exact .inr ⟨u, rfl, hR⟩
theorem VCallsP.toFreshPV {f : FuncId} {args : List TV} {R : TV → Prop} {RP : Value → Prop} (h : VCallsP P f args [] (fun x H' => vget (frs H' x) R) fun u _ => RP u) : VFreshP P f args R RP :=
 VCallsP.toFreshP (h.mono (fun x H' hx => by
  cases hf : frs H' x with
  | none => rw [hf] at hx; exact hx
  | some y => rw [hf] at hx; exact hx) fun _ _ h => h)
theorem VFreshP.lendsP {f : FuncId} {args args' : List TV} {R : TV → Prop} {RP : Value → Prop} {H : List Ob} {K : TV → List Ob → Prop} {KP : Value → List Ob → Prop} (h : VFreshP P f args' R RP) (hp : frzL H args = some args') (hk : ∀ x, R x → K x H) (hkp : ∀ u, RP u → KP u H) : VCP P f args H K KP := by
 intro β F w vs hs hv
 refine (h β (fun b => F b ∨ Ctx.own ⟨β, H, F⟩ b) w vs ⟨fun b hb => hb.elim (hs.lt b) hs.own_lt, hs.glob.keep fun b hb => ⟨.inl hb, rfl⟩⟩ (frzL_rep hs hp hv)).mono ?_
 rintro _ w' ⟨F', hst, hc⟩
 have hst' : Stays F w (fun b => F b ∨ (F' b ∧ w.heap.size ≤ b)) w' := ⟨hst.os, hst.tape, hst.output, hst.size, hst.same, fun _ h => .inl h, fun b hb h => h.elim id fun h => by omega, fun b hb => hb.elim (fun h => Nat.lt_of_lt_of_le (hs.lt b h) hst.size) fun h => hst.ltF b h.1⟩
 refine ⟨β, H, _, hst'.sim hs, hst'.later, ?_⟩
 rcases hc with ⟨v, x, rfl, hR, hx⟩ | ⟨u, rfl, hR⟩
 ·exact .inl ⟨v, x, rfl, hk x hR, Rep.mono (Mono.ofF (F := fun b => F' b ∧ w.heap.size ≤ b) (F' := fun b => F b ∨ (F' b ∧ w.heap.size ≤ b)) fun b hb => .inr hb) hx⟩
 ·exact .inr ⟨u, rfl, hkp u hR⟩

def Conv1 (x x' : TV) : Prop := ∀ (c : Ctx) (w : World) (v : Value), Rep1 c w x v → Rep1 c w x' v
inductive ConvL : List TV → List TV → Prop
 | nil : ConvL [] []
 | cons {x x' : TV} {xs xs' : List TV} : Conv1 x x' → ConvL xs xs' → ConvL (x :: xs) (x' :: xs')
theorem Conv1.refl {x : TV} : Conv1 x x := fun _ _ _ h => h
theorem ConvL.refl : ∀ {xs : List TV}, ConvL xs xs
 | [] => .nil
 | _ :: _ => .cons Conv1.refl ConvL.refl
theorem ConvL.rep {c : Ctx} {w : World} {xs xs' : List TV} (h : ConvL xs xs') : ∀ {vs : List Value}, RepL c w xs vs → RepL c w xs' vs := by
 induction h with
 | nil => exact fun h => h
 | cons h1 h2 ih =>
  intro vs hv
  rw [RepL.cons] at hv ⊢
  obtain ⟨u, us, rfl, k1, k2⟩ := hv
  exact ⟨u, us, rfl, h1 _ _ _ k1, ih k2⟩
/-- No slice is an empty one. -/
theorem conv_nil {k : Nat} : Conv1 (.val (.slice none 0 0)) (.sl k []) := fun c w v h => by
 have hv : v = .slice none 0 0 := by
  have h' : Rep c w (.val (.slice none 0 0)) v := .inl h
  rw [Rep.val] at h'; exact h'
 subst hv
 refine .inr (.inr ⟨[.slice none 0 0], ?_, rfl⟩)
 rw [RepC]
 exact ⟨by simp, .inl ⟨rfl, none, 0, rfl, by omega⟩⟩
theorem VPure.argL {f : FuncId} {args args' : List TV} {R : TV → Prop} (h : VPure P f args' R) (hc : ConvL args args') : VPure P f args R :=
 fun β F w vs hF hv => h β F w vs hF (hc.rep hv)
/-- A result may be read in another way. -/
theorem VPure.conv {f : FuncId} {args : List TV} {R R' : TV → Prop} (h : VPure P f args R) (hc : ∀ x, R x → ∃ x', R' x' ∧ ∀ c w v, Rep c w x v → Rep c w x' v) : VPure P f args R' :=
 fun β F w vs hF hv => (h β F w vs hF hv).mono fun _ _ ⟨v, x, F', h1, h2, h3, h4⟩ => by
  obtain ⟨x', k1, k2⟩ := hc x h2
  exact ⟨v, x', F', h1, k1, k2 _ _ _ h3, h4⟩
theorem ConvL.tup {xs xs' : List TV} (h : ConvL xs xs') : ∀ (c : Ctx) (w : World) (v : Value), Rep c w (.tup xs) v → Rep c w (.tup xs') v := by
 rintro c w v ((h1 | h1 | ⟨us, h1, _⟩) | ⟨ys, vs, h1, h2, h3⟩)
 ·cases h1
 ·cases h1
 ·rw [RepC] at h1; exact h1.elim
 ·cases h1
  exact .inr ⟨xs', vs, rfl, h2, h.rep h3⟩
end Go.Proofs.YtfgljddikcghhaaDoor

