/- What the proof of GraphOrdersCard stands on (texts merged; names shortened by a program): part 4. -/
import Derived.Test.YtingoaihnlhiaaaDoorQC
import Derived.ProofKit
import Derived.OpenShut
import Derived.ShutString
import Derived.ChangeOld
import Derived.Below
import Derived.Carry
import Derived.SizedLaws
import Derived.Lib.LaidTab
import Derived.LaidHandle
import Derived.Sort.Walk0
import Derived.Lib.Bytealg
import Derived.Shelf.SlSortCmp.NoneTotal
namespace Go.Proofs.YtingoaihnlhiaaaDoor
open Go.RowKit
variable [A7]
set_option linter.unusedSectionVars false
set_option linter.unusedSimpArgs false
set_option linter.unusedVariables false
set_option autoImplicit false

inductive VR where
 | tmp (t : Nat)
 | cell (a : Nat) (ag : Bool) (sz : Nat)
 deriving Inhabited
def trR (P : Program) : List ResultVar → Option (List VR)
 | [] => some []
 | .tmp t :: r => (trR P r).map (.tmp t :: ·)
 | .cell a t :: r => match AbX P t, RN P t, trR P r with
  | some ag, some sz, some r => some (.cell a ag sz :: r)
  | _, _, _ => none

def Ac7 : List VR → Env → List Ob → (List TV → Prop) → Prop
 | [], e, H, K => K []
 | .tmp t :: r, e, H, K => Ac7 r e H fun xs => K (get e t :: xs)
 | .cell a ag sz :: r, e, H, K => pop (.load ag sz (.t a)) e H fun x => Ac7 r e H fun xs => K (x :: xs)
def res (r : List VR) (e : Env) (H : List Ob) (K : TV → Prop) : Prop := Ac7 r e H fun xs => match xs with
 | [x] => K x
 | xs => (∀ x ∈ xs, BU x = false) ∧ K (.tup xs)

section
variable {P : Program}
/-- A result that is read. -/
def rv (a : Act) (r : ResultVar) : Sem Value := match r with
 | .tmp t => pure (a.tmps.getD t undef)
 | .cell x t => do loadVar t (← asAddr (a.tmps.getD x undef))

theorem Abx {c : Ctx} {w : World} {e : Env} {a : Act} (hs : Sim c w) (he : AU c w e a) : ∀ {rs : List ResultVar} {vr : List VR} {K : List TV → Prop}, trR P rs = some vr → Ac7 vr e c.H K →
  ∃ (xs : List TV) (vs : List Value), (rs.mapM (rv a)).run P w = .ok vs w ∧ xs.length = vs.length ∧ (∀ (i : Nat) x v, xs[i]? = some x → vs[i]? = some v → Rep c w x v) ∧ K xs
 | [], vr, K, ht, h => by
  simp only [trR, Option.some.injEq] at ht; subst ht
  exact ⟨[], [], rfl, rfl, by simp, h⟩
 | .tmp t :: rs, vr, K, ht, h => by
  simp only [trR, Option.map_eq_some_iff] at ht
  obtain ⟨r, hr, rfl⟩ := ht
  rw [Ac7] at h
  obtain ⟨xs, vs, h1, h2, h3, h4⟩ := Abx hs he hr h
  refine ⟨get e t :: xs, a.tmps.getD t undef :: vs, by rw [List.mapM_cons]; simp only [rv, Sem.run_bind, Sem.run_pure, Result.andThen_ok, h1], by simp [h2], ?_, h4⟩
  intro i x v hx hv
  cases i with
  | zero => simp at hx hv; subst hx; subst hv; simpa using he.1 t
  | succ i => exact h3 i x v (by simpa using hx) (by simpa using hv)
 | .cell b t :: rs, vr, K, ht, h => by
  simp only [trR] at ht
  split at ht
  ·rename_i ag sz r h1 h2 hr
   cases ht
   rw [Ac7] at h
   have hy := AlC (P := P) (a := a) (ty := 0) hs he h1 h2 (x := .tmp b) h
   obtain ⟨x, v, hrun, hx, hK⟩ := hy ⟨none, .load t (.tmp b), 0, "", #[], none⟩ rfl rfl
   have hload : (do loadVar t (← asAddr (a.tmps.getD b undef)) : Sem Value).run P w = .ok v w := by
    simp only [execOp, Instr.loadAt, Sem.run_bind, Act.eval] at hrun
    simp only [Sem.run_bind]
    cases hp : a.tmps.getD b undef with
    | pointer p =>
     rw [hp] at hrun
     cases p with
     | none => simp [Instr.sureAddr, stuck] at hrun
     | some ad =>
      simp only [Instr.sureAddr, Sem.run_pure, Result.andThen_ok, asAddr] at hrun ⊢
      cases hl : (loadVar t ad).run P w with
      | ok u w2 => rw [hl] at hrun; simp only [Result.andThen_ok, Sem.run_pure] at hrun; cases hrun; rfl
      | halt hh w2 => rw [hl] at hrun; simp at hrun
    | _ => rw [hp] at hrun; simp [Instr.sureAddr, stuck] at hrun
   obtain ⟨xs, vs, h3, h4, h5, h6⟩ := Abx hs he hr hK
   refine ⟨x :: xs, v :: vs, by rw [List.mapM_cons, Sem.run_bind]; show Result.andThen ((rv a (.cell b t)).run P w) _ = _; rw [show (rv a (.cell b t)).run P w = .ok v w from hload]; simp only [Result.andThen_ok, Sem.run_bind, h3, Sem.run_pure], by simp [h4], ?_, h6⟩
   intro i y u hy hu
   cases i with
   | zero => simp at hy hu; subst hy; subst hu; exact hx
   | succ i => exact h5 i y u (by simpa using hy) (by simpa using hu)
  ·cases ht

theorem AmI {c : Ctx} {w : World} {e : Env} {a : Act} (hs : Sim c w) (he : AU c w e a) {fn : Func} {vr : List VR} {K : TV → Prop} (ht : trR P fn.results.toList = some vr) (h : res vr e c.H K) :
  ∃ x v, (results fn a.tmps).run P w = .ok v w ∧ Rep c w x v ∧ K x := by
 obtain ⟨xs, vs, h1, h2, h3, h4⟩ := Abx hs he ht h
 have hrun : (fn.results.mapM (rv a)).run P w = .ok vs.toArray w := by
  rw [Array.mapM_eq_mapM_toList]
  simp only [Sem.run_map, h1, Result.andThen_ok]
 have hres : (results fn a.tmps).run P w = .ok (if h : vs.toArray.size = 1 then vs.toArray[0] else .tuple vs.toArray) w := by
  have : results fn a.tmps = (do let vs ← fn.results.mapM (rv a); pure (if h : vs.size = 1 then vs[0] else .tuple vs)) := rfl
  rw [this, Sem.run_bind, hrun]; rfl
 rcases xs with _ | ⟨x, _ | ⟨y, xs⟩⟩
 ·have hv : vs = [] := List.length_eq_zero_iff.1 (by simpa using h2.symm)
  subst hv
  exact ⟨_, _, hres, .inr ⟨[], [], rfl, rfl, by rw [Ba]⟩, h4.2⟩
 ·obtain ⟨v, rfl⟩ := List.length_eq_one_iff.1 (by simpa using h2.symm)
  exact ⟨_, _, hres, h3 0 x v rfl rfl, h4⟩
 ·rcases vs with _ | ⟨u, _ | ⟨v, vs⟩⟩
  ·simp at h2
  ·simp at h2
  ·refine ⟨_, _, hres, .inr ⟨_, u :: v :: vs, rfl, by simp, ?_⟩, h4.2⟩
   have key : ∀ (xs : List TV) (vs : List Value), xs.length = vs.length → (∀ x ∈ xs, BU x = false) → (∀ (i : Nat) x v, xs[i]? = some x → vs[i]? = some v → Rep c w x v) → Ba c w xs vs := by
    intro xs
    induction xs with
    | nil => intro vs h _ _; rw [Ba]; exact List.length_eq_zero_iff.1 h.symm
    | cons x xs ih =>
     intro vs hl ht hr
     cases vs with
     | nil => simp at hl
     | cons v vs =>
      refine Ba.cons.2 ⟨v, vs, rfl, ?_, ih vs (by simpa using hl) (fun y hy => ht y (by simp [hy])) fun i y u hy hu => hr (i + 1) y u (by simpa using hy) (by simpa using hu)⟩
      rcases hr 0 x v rfl rfl with h | ⟨ys, us, rfl, _⟩
      ·exact h
      ·have := ht (.tup ys) (by simp); simp [BU] at this
   exact key _ _ h2 h4.1 h3

def AbG : Nat → List TV → Env
 | _, [] => []
 | i, x :: xs => (i, x) :: AbG (i + 1) xs
theorem Ab1 : ∀ (xs : List TV) (i s : Nat), get (AbG i xs) s = if i ≤ s then (xs[s - i]?).getD .any else .any
 | [], i, s => by simp [AbG, get]
 | x :: xs, i, s => by
  rw [AbG, BK, Ab1 xs (i + 1) s]
  by_cases h : i = s
  ·subst h; simp
  ·rw [if_neg h]
   by_cases h2 : i ≤ s
   ·rw [if_pos (by omega), if_pos h2, show s - i = (s - (i + 1)) + 1 from by omega, List.getElem?_cons_succ]
   ·rw [if_neg (by omega), if_neg h2]

theorem Ba.get {c : Ctx} {w : World} : ∀ {xs : List TV} {vs : List Value}, Ba c w xs vs → xs.length = vs.length ∧ ∀ (i : Nat) x, xs[i]? = some x → ∃ v, vs[i]? = some v ∧ Rep c w x v
 | [], vs, h => by rw [Ba] at h; subst h; simp
 | x :: xs, vs, h => by
  obtain ⟨u, us, rfl, h1, h2⟩ := Ba.cons.1 h
  obtain ⟨h3, h4⟩ := Ba.get h2
  refine ⟨by simp [h3], fun i y hy => ?_⟩
  cases i with
  | zero => simp at hy; subst hy; exact ⟨u, rfl, .inl h1⟩
  | succ i => simpa using h4 i y (by simpa using hy)

/-- The end of a body. -/
def Zq (vr : List VR) (R : TV → List Ob → Prop) : VEx → Env → List Ob → Prop
 | .nor, e, H => res vr e H fun x => R x H
 | .ret, e, H => res vr e H fun x => R x H
 | .exit _, _, _ => False
 | .pan _, _, _ => False

/-- A block that is nobody's turns. -/
theorem Sim.nobody {c : Ctx} {w : World} (hs : Sim c w) {r : Nat} {o o' : Obj} (hr : w.heap[r]? = some o) (h1 : ¬ c.own r) (h2 : ¬ c.F r) (hsh : (w.putObj r o').shape? r = w.shape? r) : Sim c (w.putObj r o') ∧ Gf c w c (w.putObj r o') := by
 have hoth : ∀ b, b ≠ r → (w.putObj r o').heap[b]? = w.heap[b]? := fun b hb => World.putObj_heap_other hb
 have hm : Gf c w c (w.putObj r o') := ⟨fun b hb => ⟨hb, hoth b fun e => h2 (e ▸ hb)⟩, fun _ _ h => ⟨h, rfl⟩, fun b _ => by
  by_cases hb : b = r
  ·subst hb; exact hsh
  ·exact BO (hoth b hb)⟩
 refine ⟨⟨fun id ob ho => ZQ.mono hm (Ctx.has_of ho) (fun hl b off hb => hoth b fun e => h1 (e ▸ Ctx.own_of ho hl hb)) (hs.ob id ob ho), hs.inj, hs.apart, fun b hb => ?_, hs.glob.keep hm.stay⟩, hm⟩
 rw [(Qc w r o').2.2.2]; exact hs.lt b hb
theorem AC.nobody {c0 c : Ctx} {w0 w : World} (h : AC c0 w0 c w) {r : Nat} {o' : Obj} (hr : w0.heap.size ≤ r) : AC c0 w0 c (w.putObj r o') :=
 ⟨h.os, h.tape, h.output, by rw [(Qc w r o').2.2.2]; exact h.size, h.has, fun b hb => (BO (World.putObj_heap_other (by omega))).trans (h.shape b hb), fun b hb ho => (World.putObj_heap_other (by omega)).trans (h.same b hb ho), h.keepF, h.oldF, h.oldOwn⟩
/-- The blocks are shut on the way out. -/
theorem Ky.shut {D0 : List Deferred} {u : FrameMode} (hu : u ≠ .run) {FF : Fence} {n : Nat} {fn : Func} {tmps : Array Value} {R : Ending → World → Prop} {B : Nat} {c : Ctx} : ∀ {D : List Deferred} {w : World}, Ky D0 B c w D → Sim c w →
  ∃ wF, (LeavesInM FF n P fn tmps R D0 u wF → LeavesInM FF n P fn tmps R D u w) ∧ Sim c wF ∧ Gf c w c wF ∧ ∀ (c0 : Ctx) (w0 : World), w0.heap.size ≤ B → AC c0 w0 c w → AC c0 w0 c wF := by
 rintro D w ⟨ds, rfl, hnd, hds⟩ hs
 induction ds generalizing w with
 | nil => exact ⟨w, fun h => h, hs, Gf.heap rfl, fun c0 w0 _ h => h⟩
 | cons r ds ih =>
  obtain ⟨k1, k2, k3, k4, k5⟩ := hds r (by simp)
  rw [List.nodup_cons] at hnd
  have hput := World.putObj_heap_same (w := w) (o := .deferred none) k2
  obtain ⟨s1, s2⟩ := hs.nobody (o' := .deferred none) k5 k3 k4 (by simp [World.shape?, hput, k5])
  obtain ⟨wF, e1, e2, e3, e4⟩ := ih (w := w.putObj r (.deferred none)) hnd.2 (fun q hq => by
   obtain ⟨q1, q2, q3, q4, q5⟩ := hds q (by simp [hq])
   have hne : q ≠ r := fun e => hnd.1 (e ▸ hq)
   exact ⟨q1, by rw [(Qc w r _).2.2.2]; exact q2, q3, q4, (World.putObj_heap_other hne).trans q5⟩) s1
  refine ⟨wF, fun h => ⟨hu, .inl ⟨r, _, rfl, run_takeDeferred k5, e1 h⟩⟩, e2, ⟨fun b hb => ⟨hb, ((e3.stay b hb).2).trans (s2.stay b hb).2⟩, fun _ _ h => ⟨h, rfl⟩, fun b hb => (e3.shape b (by rw [(Qc w r _).2.2.2]; exact hb)).trans (s2.shape b hb)⟩, fun c0 w0 hB hl => e4 c0 w0 hB (hl.nobody (by omega))⟩

/-- A FUNCTION: out of its body's condition. -/
theorem AhB {f : FuncId} {fn : Func} {vc : Af} {vr : List VR} {args : List TV} {H : List Ob} {R : TV → List Ob → Prop} (hf : P.funcs[f]? = some fn) (ht : fn.body.bind (trC P fn.ntmps) = some (er vc)) (hr : trR P fn.results.toList = some vr)
  (hn : args.length ≤ fn.ntmps) (h : vwp P vc (Zq vr R) (AbG 0 args) H) : Aq P f args H R := by
 obtain ⟨code, hb, ht⟩ := Option.bind_eq_some_iff.1 ht
 intro β F w vs hs hv
 obtain ⟨hl, hget⟩ := Ba.get hv
 refine (callsIn_wide (n := 0)).1 (callsIn_of_wp_marks hf hb trivial ?_)
 refine Aim (ro := none) (nn := 0) (B := w.heap.size) (D := []) (D0 := []) vc (.inl rfl) ht h hs ⟨⟨fun s => ?_, hs.glob⟩, by simp; omega, rfl⟩ Ky.nil (Nat.le_refl _) ?_
 ·rw [Ab1]
  simp only [Nat.zero_le, if_true, Nat.sub_zero]
  cases hx : args[s]? with
  | none => exact Rep.any
  | some x =>
   obtain ⟨v, hv1, hv2⟩ := hget s x hx
   have hs' : s < vs.length := (List.getElem?_eq_some_iff.1 hv1).1
   have : ((vs.toArray ++ Array.replicate (fn.ntmps - vs.toArray.size) undef).getD s undef) = v := by
    rw [Array.getD_eq_getD_getElem?, Array.getElem?_append_left (by simpa using hs')]
    simp [hv1]
   rw [this]; exact hv2
 ·intro x e' H' β' F' w' a' D' k1 k2 k3 km k4
  have fin : res vr e' H' (fun x => R x H') → LeavesInM Fence.wide 0 P fn a'.tmps (fun e w' => ∃ v x β' H' F', e = .returned v ∧ R x H' ∧ Sim ⟨β', H', F'⟩ w' ∧ AC ⟨β, H, F⟩ w ⟨β', H', F'⟩ w' ∧ Rep ⟨β', H', F'⟩ w' x v) a'.defers .returning w' := fun h => by
   rw [k3.defers]
   obtain ⟨wF, e1, e2, e3, e4⟩ := Ky.shut (D0 := []) (u := .returning) (by simp) (P := P) (FF := Fence.wide) (n := 0) (fn := fn) (tmps := a'.tmps) (R := fun e w' => ∃ v x β' H' F', e = .returned v ∧ R x H' ∧ Sim ⟨β', H', F'⟩ w' ∧ AC ⟨β, H, F⟩ w ⟨β', H', F'⟩ w' ∧ Rep ⟨β', H', F'⟩ w' x v) km k2
   obtain ⟨y, v, r1, r2, r3⟩ := AmI (fn := fn) (a := a') e2 ⟨fun s => Rep.mono e3 (k3.env.1 s), e2.glob⟩ hr h
   exact e1 ⟨v, r1, v, y, β', H', F', rfl, r3, e2, e4 _ _ (Nat.le_refl _) k4, r2⟩
  cases x with
  | nor => exact fin k1
  | ret => exact fin k1
  | exit i => exact k1.elim
  | pan u => exact k1.elim

/-- The end of a body that may panic. -/
def Agx (vr : List VR) (R : TV → List Ob → Prop) (RP : Value → List Ob → Prop) : VEx → Env → List Ob → Prop
 | .nor, e, H => res vr e H fun x => R x H
 | .ret, e, H => res vr e H fun x => R x H
 | .exit _, _, _ => False
 | .pan u, _, H => RP u H



/-- Nothing that was there has turned. -/
structure Pz (F : Nat → Prop) (w : World) (F' : Nat → Prop) (w' : World) : Prop where
 os : w'.os = w.os
 tape : w'.tape = w.tape
 output : w'.output = w.output
 size : w.heap.size ≤ w'.heap.size
 same : ∀ b, b < w.heap.size → w'.heap[b]? = w.heap[b]?
 keepF : ∀ b, F b → F' b
 oldF : ∀ b, b < w.heap.size → F' b → F b
 ltF : ∀ b, F' b → b < w'.heap.size

/-- A CALL THAT LEAVES NOTHING BEHIND but new memory that nobody changes any more. -/
def Et (P : Program) (f : FuncId) (args : List TV) (R : TV → Prop) : Prop :=
 ∀ (β : Nat → Nat → Option (Nat × Nat)) (F : Nat → Prop) (w : World) (vs : List Value), ((∀ b, F b → b < w.heap.size) ∧ Jz F w) → Ba ⟨β, [], F⟩ w args vs →
  Calls P f vs.toArray w fun e w' => ∃ v x F', e = .returned v ∧ R x ∧ Rep ⟨β, [], F'⟩ w' x v ∧ Pz F w F' w'

theorem Et.mono {f : FuncId} {args : List TV} {R R' : TV → Prop} (h : Et P f args R) (hr : ∀ x, R x → R' x) : Et P f args R' :=
 fun β F w vs hF hv => (h β F w vs hF hv).mono fun _ _ ⟨v, x, F', h1, h2, h3⟩ => ⟨v, x, F', h1, hr _ h2, h3⟩

theorem Aq.toPure {f : FuncId} {args : List TV} {R : TV → Prop} (h : Aq P f args [] fun x H' => match frz H' x with | some y => R y | none => False) : Et P f args R := by
 intro β F w vs hF hv
 have hs : Sim ⟨β, [], F⟩ w := ⟨fun id o ho => by simp at ho, fun i j x y b o o' hx => by simp at hx, fun b hb => by obtain ⟨i, o, off, h1, _⟩ := hb; simp at h1, hF.1, hF.2⟩
 refine (h β F w vs hs hv).mono ?_
 rintro _ w' ⟨v, x, β', H', F', rfl, hR, hs', hl, hx⟩
 split at hR
 ·rename_i y hy
  have hno : ∀ b, ¬ Ctx.own ⟨β, [], F⟩ b := fun b hb => by obtain ⟨i, o, off, h1, _⟩ := hb; simp at h1
  have hr := AnK hs' hy hx
  refine ⟨v, y, fun b => F' b ∨ Ctx.own ⟨β', H', F'⟩ b, rfl, hR, Rep.mono (Gf.toBare [] β) hr, ⟨hl.os, hl.tape, hl.output, hl.size, fun b hb => hl.same b hb (hno b), fun b hb => .inl (hl.keepF b hb), fun b hb hF' => ?_, fun b hF' => hF'.elim (hs'.lt b) hs'.own_lt⟩⟩
  rcases hF' with hF' | hF'
  ·exact (hl.oldF b hb hF').resolve_right (hno b)
  ·exact absurd (hl.oldOwn b hb hF') (hno b)
 ·exact hR.elim

theorem Pz.later {β : Nat → Nat → Option (Nat × Nat)} {H : List Ob} {F F' : Nat → Prop} {w w' : World} (h : Pz F w F' w') : AC ⟨β, H, F⟩ w ⟨β, H, F'⟩ w' :=
 ⟨h.os, h.tape, h.output, h.size, fun id v ⟨o, h1, h2⟩ => ⟨⟨o, h1, h2⟩, rfl⟩, fun b hb => BO (h.same b hb), fun b hb _ => h.same b hb, h.keepF, fun b hb hF => .inl (h.oldF b hb hF), fun b hb ⟨i, o, off, h1, h2, h3⟩ => ⟨i, o, off, h1, h2, h3⟩⟩
theorem Pz.sim {β : Nat → Nat → Option (Nat × Nat)} {H : List Ob} {F F' : Nat → Prop} {w w' : World} (hs : Sim ⟨β, H, F⟩ w) (h : Pz F w F' w') : Sim ⟨β, H, F'⟩ w' := by
 have hm : Gf ⟨β, H, F⟩ w ⟨β, H, F'⟩ w' := ⟨fun b hb => ⟨h.keepF b hb, h.same b (hs.lt b hb)⟩, fun id v ⟨o, h1, h2⟩ => ⟨⟨o, h1, h2⟩, rfl⟩, fun b hb => BO (h.same b hb)⟩
 refine ⟨fun id o ho => ZQ.mono hm ⟨o, ho, Nat.le_refl _⟩ (fun hl b off hb => h.same b (hs.own_lt ⟨id, o, off, ho, hl, hb⟩)) (hs.ob id o ho), hs.inj, fun b hb hF => ?_, h.ltF, hs.glob.keep hm.stay⟩
 obtain ⟨i, o, off, h1, h2, h3⟩ := hb
 have ho : Ctx.own ⟨β, H, F⟩ b := ⟨i, o, off, h1, h2, h3⟩
 exact hs.apart b ho (h.oldF b (hs.own_lt ho) hF)

/-- Such a call, with nothing lent. -/
theorem Et.calls {f : FuncId} {args : List TV} {R : TV → Prop} {H : List Ob} {K : TV → List Ob → Prop} (h : Et P f args R) (hp : CO args = true) (hk : ∀ x, R x → K x H) : Aq P f args H K := by
 intro β F w vs hs hv
 refine (h β F w vs ⟨hs.lt, hs.glob⟩ (Ba.pure hp hv)).mono ?_
 rintro _ w' ⟨v, x, F', rfl, hR, hx, hst⟩
 exact ⟨v, x, β, H, F', rfl, hk x hR, hst.sim hs, hst.later, Rep.mono (Gf.toBare H β) hx⟩

/-- Such a call, to which objects are lent: it yields no memory. -/
theorem Et.lends {f : FuncId} {args args' : List TV} {R : TV → Prop} {H : List Ob} {K : TV → List Ob → Prop} (h : Et P f args' R) (hp : Aq9 H args = some args') (hk : ∀ x, R x → Acw x = true ∧ K x H) : Aq P f args H K := by
 intro β F w vs hs hv
 refine (h β (fun b => F b ∨ Ctx.own ⟨β, H, F⟩ b) w vs ⟨fun b hb => hb.elim (hs.lt b) hs.own_lt, hs.glob.keep fun b hb => ⟨.inl hb, rfl⟩⟩ (Aeq hs hp hv)).mono ?_
 rintro _ w' ⟨v, x, F', rfl, hR, hx, hst⟩
 obtain ⟨hsc, hK⟩ := hk x hR
 have hst' : Pz F w F w' := ⟨hst.os, hst.tape, hst.output, hst.size, hst.same, fun _ h => h, fun _ _ h => h, fun b hb => Nat.lt_of_lt_of_le (hs.lt b hb) hst.size⟩
 exact ⟨v, x, β, H, F, rfl, hK, hst'.sim hs, hst'.later, Ajr hsc hx⟩

theorem Gf.ofF {β β' : Nat → Nat → Option (Nat × Nat)} {H : List Ob} {F F' : Nat → Prop} {w : World} (h : ∀ b, F b → F' b) : Gf ⟨β, [], F⟩ w ⟨β', H, F'⟩ w :=
 ⟨fun b hb => ⟨h b hb, rfl⟩, fun id v h => by obtain ⟨o, h, _⟩ := h; simp at h, fun _ _ => rfl⟩
mutual
/-- The reading of a result, where all memory in it is one's own, its elements without memory. -/
def frs (H : List Ob) : TV → Option TV
 | .val v => some (.val v)
 | .any => some .any
 | .os k id ver p off n cp => match H[id]? with
  | some (.obj v x) => if v = ver then (match Di p k off n x with
   | some cs => if J5 cs then some (.sl k cs) else none
   | none => none) else none
  | _ => none
 | .agg cs => (Ac8 H cs).map .agg
 | .arr n k cs => if J5 cs then some (.arr n k cs) else none
 | .tup cs => (Ac8 H cs).map .tup
 | .ifc t x => (frs H x).map (.ifc t)
 | _ => none
def Ac8 (H : List Ob) : List TV → Option (List TV)
 | [] => some []
 | x :: xs => match frs H x, Ac8 H xs with
  | some x, some xs => some (x :: xs)
  | _, _ => none
end

/-- Only one's own blocks. -/
def Ctx.mine (c : Ctx) : Ctx := ⟨c.β, [], c.own⟩

theorem Abz {p : List (Nat × Nat)} {k off : Nat} {x : TV} {cs : List TV} (h : Di p k off 0 x = some cs) : cs = [] := by
 unfold Di at h
 split at h
 ·split at h
  ·cases h; simp
  ·cases h
 ·cases h

mutual
theorem Aa0 {c : Ctx} {w : World} (hs : Sim c w) : ∀ {x x' : TV} {us : List Value}, frs c.H x = some x' → Aj c w x us → Aj c.mine w x' us
 | .val y, x', us, hf, hr => by simp only [frs, Option.some.injEq] at hf; subst hf; rw [Aj] at hr ⊢; exact hr
 | .any, x', us, hf, hr => by simp only [frs, Option.some.injEq] at hf; subst hf; rw [Aj] at hr ⊢; exact hr
 | .mp _ _, x', us, hf, hr => by simp [frs] at hf
 | .yl _ _, x', us, hf, hr => by simp [frs] at hf
 | .sl k cs, x', us, hf, hr => by simp [frs] at hf
 | .fp x, x', us, hf, hr => by simp [frs] at hf
 | .op id ver p, x', us, hf, hr => by simp [frs] at hf
 | .fn f a b, x', us, hf, hr => by simp [frs] at hf
 | .os k id ver p off n cp, x', us, hf, hr => by
  rw [Aj] at hr
  obtain ⟨hr1, hr2⟩ := hr
  rw [frs] at hf
  split at hf
  ·rename_i ver' x hid
   split at hf
   ·rename_i e; subst e
    split at hf
    ·rename_i cs hcs
     split at hf
     ·rename_i hsc
      cases hf
      rcases hr2 with ⟨rfl, a0, hr2, _⟩ | ⟨b0, o0, cap, t0, m0, hr2, hr3, hr4, hr5, hr6, hr7⟩
      ·have := Abz hcs
       subst this
       rw [Aj]
       exact ⟨by simp, .inl ⟨rfl, a0, 0, hr2, by omega⟩⟩
      rcases hs.ob id _ hid with ⟨h0, _⟩ | ⟨b, off', pre, vs, post, t, fr, h0, h1, h2, h3, h4⟩
      ·rw [h0] at hr2; cases hr2
      rw [h0] at hr2
      obtain ⟨rfl, rfl⟩ : b = b0 ∧ off' = o0 := by simpa using hr2
      obtain ⟨a, m, q, rfl, k1, k2, k3, k4⟩ := Jw h4 hcs
      rw [Aj]
      refine ⟨k3, .inr ⟨b, off' + D7 p + off * k, cap, m, by rw [k4]; exact hr3, by omega, hr5, ⟨id, _, off', hid, rfl, h0⟩, I4 hsc k2, ?_⟩⟩
      have e : off' + D7 p + off * k = pre.length + a.length := by rw [h3, k1]; omega
      rw [e]; exact G6 h1
     ·cases hf
    ·cases hf
   ·cases hf
  ·cases hf
 | .agg cs, x', us, hf, hr => by
  simp only [frs, Option.map_eq_some_iff] at hf
  obtain ⟨ds, hds, rfl⟩ := hf
  rw [Aj] at hr ⊢
  exact Ab7 hs hds hr
 | .arr n k cs, x', us, hf, hr => by
  rw [frs] at hf
  split at hf
  ·rename_i hsc; cases hf; rw [Aj] at hr ⊢; exact ⟨hr.1, hr.2.1, I4 hsc hr.2.2⟩
  ·cases hf
 | .tup cs, x', us, hf, hr => by rw [Aj] at hr; exact hr.elim
 | .ifc t x, x', us, hf, hr => by
  simp only [frs, Option.map_eq_some_iff] at hf
  obtain ⟨y, hy, rfl⟩ := hf
  rw [Aj] at hr ⊢
  obtain ⟨u, h1, vs, h2, h3⟩ := hr
  exact ⟨u, h1, vs, Aa0 hs hy h2, by rw [h3]; exact Ads hy vs⟩
theorem Ab7 {c : Ctx} {w : World} (hs : Sim c w) : ∀ {xs xs' : List TV} {us : List Value}, Ac8 c.H xs = some xs' → Ak c w xs us → Ak c.mine w xs' us
 | [], xs', us, hf, hr => by simp only [Ac8, Option.some.injEq] at hf; subst hf; rw [Ak] at hr ⊢; exact hr
 | x :: xs, xs', us, hf, hr => by
  rw [Ac8] at hf
  split at hf
  ·rename_i y ys hy hys
   cases hf
   rw [Ak] at hr ⊢
   obtain ⟨u, us, h1, h2, h3⟩ := hr
   exact ⟨u, us, h1, Aa0 hs hy h2, Ab7 hs hys h3⟩
  ·cases hf
theorem Ads {H : List Ob} : ∀ {x x' : TV} (hf : frs H x = some x') (us : List Value), mkV x us = mkV x' us
 | .val y, x', hf, us => by simp only [frs, Option.some.injEq] at hf; subst hf; rfl
 | .any, x', hf, us => by simp only [frs, Option.some.injEq] at hf; subst hf; rfl
 | .mp _ _, x', hf, us => by simp [frs] at hf
 | .yl _ _, x', hf, us => by simp [frs] at hf
 | .sl k cs, x', hf, us => by simp [frs] at hf
 | .fp x, x', hf, us => by simp [frs] at hf
 | .op id ver p, x', hf, us => by simp [frs] at hf
 | .fn f a b, x', hf, us => by simp [frs] at hf
 | .os k id ver p off n cp, x', hf, us => by
  rw [frs] at hf
  split at hf
  ·split at hf
   ·split at hf
    ·split at hf
     ·cases hf; rfl
     ·cases hf
    ·cases hf
   ·cases hf
  ·cases hf
 | .agg cs, x', hf, us => by
  simp only [frs, Option.map_eq_some_iff] at hf
  obtain ⟨ds, hds, rfl⟩ := hf; rfl
 | .arr n k cs, x', hf, us => by
  rw [frs] at hf
  split at hf
  ·cases hf; rfl
  ·cases hf
 | .tup cs, x', hf, us => by
  simp only [frs, Option.map_eq_some_iff] at hf
  obtain ⟨ds, hds, rfl⟩ := hf; rfl
 | .ifc t x, x', hf, us => by
  simp only [frs, Option.map_eq_some_iff] at hf
  obtain ⟨y, hy, rfl⟩ := hf; rfl
end
theorem Aee {c : Ctx} {w : World} (hs : Sim c w) : ∀ {xs xs' : List TV} {vs : List Value}, Ac8 c.H xs = some xs' → Ba c w xs vs → Ba c.mine w xs' vs
 | [], xs', vs, hf, hr => by simp only [Ac8, Option.some.injEq] at hf; subst hf; rw [Ba] at hr ⊢; exact hr
 | x :: xs, xs', vs, hf, hr => by
  rw [Ac8] at hf
  split at hf
  ·rename_i y ys hy hys
   cases hf
   rw [Ba] at hr ⊢
   obtain ⟨u, us, h1, h2, h3⟩ := hr
   refine ⟨u, us, h1, ?_, Aee hs hys h3⟩
   rcases h2 with rfl | rfl | ⟨aS, h2, h4⟩
   ·simp only [frs, Option.some.injEq] at hy; subst hy; exact .inl rfl
   ·simp only [frs, Option.some.injEq] at hy; subst hy; exact .inr (.inl rfl)
   ·exact .inr (.inr ⟨aS, Aa0 hs hy h2, by rw [h4]; exact Ads hy aS⟩)
  ·cases hf
theorem AjZ {c : Ctx} {w : World} (hs : Sim c w) {x x' : TV} {v : Value} (hf : frs c.H x = some x') (hr : Rep c w x v) : Rep c.mine w x' v := by
 rcases hr with (h | h | ⟨us, h, h'⟩) | ⟨xs, vs, rfl, h2, h3⟩
 ·subst h; simp only [frs, Option.some.injEq] at hf; subst hf; exact Rep.any
 ·subst h; simp only [frs, Option.some.injEq] at hf; subst hf; exact Rep.of_val
 ·exact .inl (.inr (.inr ⟨us, Aa0 hs hf h, by rw [h']; exact Ads hf us⟩))
 ·simp only [frs, Option.map_eq_some_iff] at hf
  obtain ⟨ds, hds, rfl⟩ := hf
  exact .inr ⟨ds, vs, rfl, h2, Aee hs hds h3⟩

/-- A CALL THAT LEAVES NOTHING BEHIND, AND YIELDS NEW MEMORY ALONE. -/
def TB (P : Program) (f : FuncId) (args : List TV) (R : TV → Prop) : Prop :=
 ∀ (β : Nat → Nat → Option (Nat × Nat)) (F : Nat → Prop) (w : World) (vs : List Value), ((∀ b, F b → b < w.heap.size) ∧ Jz F w) → Ba ⟨β, [], F⟩ w args vs →
  Calls P f vs.toArray w fun e w' => ∃ v x F', e = .returned v ∧ R x ∧ Rep ⟨β, [], fun b => F' b ∧ w.heap.size ≤ b⟩ w' x v ∧ Pz F w F' w'

theorem TB.mono {f : FuncId} {args : List TV} {R R' : TV → Prop} (h : TB P f args R) (hr : ∀ x, R x → R' x) : TB P f args R' :=
 fun β F w vs hF hv => (h β F w vs hF hv).mono fun _ _ ⟨v, x, F', h1, h2, h3⟩ => ⟨v, x, F', h1, hr _ h2, h3⟩
theorem TB.pure {f : FuncId} {args : List TV} {R : TV → Prop} (h : TB P f args R) : Et P f args R :=
 fun β F w vs hF hv => (h β F w vs hF hv).mono fun _ _ ⟨v, x, F', h1, h2, h3, h4⟩ => ⟨v, x, F', h1, h2, Rep.mono (Gf.ofF (F := fun b => F' b ∧ w.heap.size ≤ b) (F' := F') fun b hb => hb.1) h3, h4⟩

theorem Aq.toFresh {f : FuncId} {args : List TV} {R : TV → Prop} (h : Aq P f args [] fun x H' => match frs H' x with | some y => R y | none => False) : TB P f args R := by
 intro β F w vs hF hv
 have hs : Sim ⟨β, [], F⟩ w := ⟨fun id o ho => by simp at ho, fun i j x y b o o' hx => by simp at hx, fun b hb => by obtain ⟨i, o, off, h1, _⟩ := hb; simp at h1, hF.1, hF.2⟩
 refine (h β F w vs hs hv).mono ?_
 rintro _ w' ⟨v, x, β', H', F', rfl, hR, hs', hl, hx⟩
 split at hR
 ·rename_i y hy
  have hno : ∀ b, ¬ Ctx.own ⟨β, [], F⟩ b := fun b hb => by obtain ⟨i, o, off, h1, _⟩ := hb; simp at h1
  have hr := AjZ hs' hy hx
  have hnew : ∀ b, Ctx.own ⟨β', H', F'⟩ b → w.heap.size ≤ b := fun b hb => by
   rcases Nat.lt_or_ge b w.heap.size with h1 | h1
   ·exact absurd (hl.oldOwn b h1 hb) (hno b)
   ·exact h1
  refine ⟨v, y, fun b => F b ∨ Ctx.own ⟨β', H', F'⟩ b, rfl, hR, ?_, ⟨hl.os, hl.tape, hl.output, hl.size, fun b hb => hl.same b hb (hno b), fun b hb => .inl hb, fun b hb hF' => hF'.elim id fun h => ?_, fun b hF' => hF'.elim (fun h => Nat.lt_of_lt_of_le (hF.1 b h) hl.size) hs'.own_lt⟩⟩
  ·exact Rep.mono (Gf.ofF (F := Ctx.own ⟨β', H', F'⟩) (F' := fun b => (F b ∨ Ctx.own ⟨β', H', F'⟩ b) ∧ w.heap.size ≤ b) fun b hb => ⟨.inr hb, hnew b hb⟩) hr
  ·have := hnew b h; omega
 ·exact hR.elim

/-- Such a call, to which objects are lent. -/
theorem TB.lends {f : FuncId} {args args' : List TV} {R : TV → Prop} {H : List Ob} {K : TV → List Ob → Prop} (h : TB P f args' R) (hp : Aq9 H args = some args') (hk : ∀ x, R x → K x H) : Aq P f args H K := by
 intro β F w vs hs hv
 refine (h β (fun b => F b ∨ Ctx.own ⟨β, H, F⟩ b) w vs ⟨fun b hb => hb.elim (hs.lt b) hs.own_lt, hs.glob.keep fun b hb => ⟨.inl hb, rfl⟩⟩ (Aeq hs hp hv)).mono ?_
 rintro _ w' ⟨v, x, F', rfl, hR, hx, hst⟩
 have hst' : Pz F w (fun b => F b ∨ (F' b ∧ w.heap.size ≤ b)) w' := ⟨hst.os, hst.tape, hst.output, hst.size, hst.same, fun _ h => .inl h, fun b hb h => h.elim id fun h => by omega, fun b hb => hb.elim (fun h => Nat.lt_of_lt_of_le (hs.lt b h) hst.size) fun h => hst.ltF b h.1⟩
 refine ⟨v, x, β, H, _, rfl, hk x hR, hst'.sim hs, hst'.later, Rep.mono (Gf.ofF (F := fun b => F' b ∧ w.heap.size ≤ b) (F' := fun b => F b ∨ (F' b ∧ w.heap.size ≤ b)) fun b hb => .inr hb) hx⟩
end
end Go.Proofs.YtingoaihnlhiaaaDoor


namespace Go.Proofs.YtingoaihnlhiaaaDoor
open Go.RowKit
variable [A7]
set_option linter.unusedSectionVars false
set_option linter.unusedSimpArgs false
set_option linter.unusedVariables false
set_option autoImplicit false

/-- An equation that simp is to take for no definition. -/
theorem Aa {α : Sort _} {a b : α} (h : a = b) : a = b := h

/-- Numbers, truth values, strings. -/
abbrev i64 (n : Int) : TV := .val (.int .i64 n)
abbrev tb (b : Bool) : TV := .val (.bool b)
abbrev ts (l : List UInt8) : TV := .val (.string (str l))
/-- Bytes, strings, numbers in memory. -/
abbrev slB (l : List UInt8) : TV := .sl 1 (l.map by8)
abbrev slS (l : List (List UInt8)) : TV := .sl 1 (l.map ts)

section
variable {P : Program} {e : Env} {H : List Ob}
theorem A24 {c : Opd} {a : Opd} {b : Opd} {K : TV → Prop} : pop (.pick c a b) e H K = (match c.ev e with
  | .val (.bool t) => K (if t then a.ev e else b.ev e)
  | _ => False) := Aa rfl
theorem A3m {x : Opd} {K : TV → Prop} : pop (.b2s x) e H K = (match BQ H 1 (x.ev e) with
  | some cs => (∀ y ∈ cs, AfR y) ∧ K (.val (.string (str (cs.map Y1))))
  | none => False) := Aa rfl
theorem A29 {ag : Bool} {sz : Nat} {x : Opd} {K : TV → Prop} : pop (.load ag sz x) e H K = (match x.ev e with
  | .fp y => AaH ag sz y ∧ K y
  | .op id ver p => (match H[id]? with
   | some (.obj v x) => v = ver ∧ (match Jo p x with | some y => AaH ag sz y ∧ K y | none => False)
   | _ => False)
  | _ => False) := Aa rfl
theorem Asu {n : Nat} {k : Nat} {x : Opd} {i : Opd} {K : TV → Prop} : pop (.idxAA n k x i) e H K = (match x.ev e, i.ev e with
  | .fp (.arr n' k' cs), .val (.int _ j) => k' = k ∧ n' = n ∧ 0 ≤ j ∧ (match cs[j.toNat]? with | some y => K (.fp y) | none => False)
  | .op id ver p, .val (.int _ j) => 0 ≤ j ∧ j < n ∧ K (.op id ver (p ++ [(j.toNat, j.toNat * k)]))
  | _, _ => False) := Aa rfl
theorem A2P {x : Opd} {K : TV → Prop} : pop (.lenV x) e H K = (match x.ev e with
  | .val (.slice _ n _) => K (.val (.int .i64 n))
  | .sl _ cs => K (.val (.int .i64 cs.length))
  | .os _ _ _ _ _ n _ => K (.val (.int .i64 n))
  | _ => False) := Aa rfl
theorem A2i {k : Nat} {x : Opd} {lo : Option Opd} {hi : Option Opd} {K : TV → Prop} : pop (.slV k x lo hi) e H K = (match x.ev e with
  | .sl k' cs => k' = k ∧ bnd e lo hi cs.length cs.length fun l h => K (.sl k ((cs.drop l).take (h - l)))
  | .os k' id ver p off n cp => k' = k ∧ bnd e lo hi n cp fun l h => K (.os k id ver p (off + l) (h - l) (cp - l))
  | .val (.slice ad 0 0) => bnd e lo hi 0 0 fun l h => K (.val (.slice ad 0 0))
  | _ => False) := Aa rfl
theorem Asg {n : Nat} {k : Nat} {x : Opd} {lo : Option Opd} {hi : Option Opd} {K : TV → Prop} : pop (.slA n k x lo hi) e H K = (match x.ev e with
  | .fp (.arr n' k' cs) => k' = k ∧ n' = n ∧ n ≤ 9223372036854775807 ∧ bnd e lo hi n n fun l h => K (.sl k ((cs.drop l).take (h - l)))
  | .op id ver p => (match H[id]? with
   | some (.obj v x) => v = ver ∧ n ≤ 9223372036854775807 ∧ (match Jo p x with | some (.arr n' k' cs) => k' = k ∧ n' = n ∧ bnd e lo hi n n fun l h => K (.os k id ver p l (h - l) (n - l)) | _ => False)
   | _ => False)
  | _ => False) := Aa rfl
theorem A2b {f : Fn} {first : List Opd} {caps : List Opd} {K : TV → Prop} : pop (.mkf f first caps) e H K = ((∀ x ∈ first ++ caps, BU (x.ev e) = false) ∧ K (.fn f (first.map (·.ev e)) (caps.map (·.ev e)))) := Aa rfl
theorem A25 {x : Opd} {K : TV → Prop} : pop (.nilc x) e H K = (match x.ev e with
  | .op id ver p => K (.op id ver p)
  | .fp y => K (.fp y)
  | .fn (.func f) a b => K (.fn (.func f) a b)
  | .ifc t y => K (.ifc t y)
  | .val (.func (.func f) a b) => K (.val (.func (.func f) a b))
  | _ => False) := Aa rfl
theorem Aj3 {k : Nat} {n : Nat} {z : TV} {ps : List (Nat × Opd)} {K : TV → List Ob → Prop} : sop P (.bslice k n z ps) e H K = ((DJ e (List.replicate n k) ps ∧ Bg e ps ∧ n ≤ 1000) ∧ K (.os k H.length 0 [] 0 n n) (H ++ [.obj 0 (.arr n k (Eo e (List.replicate n z) ps))])) := Aa rfl
theorem ArM {sz : Nat} {x : Opd} {v : Opd} {K : TV → List Ob → Prop} : sop P (.store sz x v) e H K = ((lays (v.ev e) = true ∧ AB (v.ev e) = sz) ∧ (match x.ev e with
  | .op id ver p => (match H[id]? with
   | some (.obj vr y) => vr = ver ∧ (match TK p y (v.ev e) with | some y' => K .any (H.set id (.obj ver y')) | none => False)
   | _ => False)
  | _ => False)) := Aa rfl
theorem Apa {f : FuncId} {args : List Opd} {K : TV → List Ob → Prop} : sop P (.call f args) e H K = ((∀ x ∈ args, BU (x.ev e) = false) ∧ Aq P f (args.map (·.ev e)) H K) := Aa rfl
theorem AlT {x : Opd} {args : List Opd} {K : TV → List Ob → Prop} : sop P (.callv x args) e H K = ((∀ x ∈ args, BU (x.ev e) = false) ∧ (match x.ev e with
  | .fn (.func f) first caps => Tj P f = true ∧ Aq P f (first ++ args.map (·.ev e) ++ caps) H K
  | .val (.func (.func f) xs ys) => (xs.isEmpty && ys.isEmpty) = true ∧ Tj P f = true ∧ Aq P f (args.map (·.ev e)) H K
  | .yl id ver => Zg P id ver (args.map (·.ev e)) H K
  | _ => False)) := Aa rfl
theorem ApG  {Q : VEx → Env → List Ob → Prop} : vwp P (.skip ) Q e H = (Q .nor e H) := Aa rfl
theorem A3j {a : Af} {b : Af} {Q : VEx → Env → List Ob → Prop} : vwp P (.seq a b) Q e H = (vwp P a (fun x e H => match x with | .nor => vwp P b Q e H | .exit i => Q (.exit i) e H | .ret => Q .ret e H | .pan u => Q (.pan u) e H) e H) := Aa rfl
theorem Apl {lv : List Nat} {c : Af} {Q : VEx → Env → List Ob → Prop} {H0 : List Ob} : vwp P (.loop lv c) Q e H0 = (∃ (I : Nat → Env → List Ob → Prop) (n : Nat), I n (forget lv e) H0 ∧
   ∀ n e H, I n e H → vwp P c (fun x e H => match x with | .nor => ∃ m g, m < n ∧ (H0.length ≤ g ∧ (H.length ≤ g ∨ (Yt g (forget lv e) = true ∧ Ic g (H.take g) = true))) ∧ I m (forget lv e) (H.take g) | .exit i => Q (.exit i) e H | .ret => Q .ret e H | .pan u => Q (.pan u) e H) e H) := Aa rfl
theorem AoF {id : Nat} {Q : VEx → Env → List Ob → Prop} : vwp P (.exit id) Q e H = (Q (.exit id) e H) := Aa rfl
theorem Asz  {Q : VEx → Env → List Ob → Prop} : vwp P (.ret ) Q e H = (Q .ret e H) := Aa rfl
theorem Anx {c : Af} {Q : VEx → Env → List Ob → Prop} : vwp P (.scope c) Q e H = (vwp P c Q e H) := Aa rfl
theorem A3y {s k : Nat} {c : Af} {Q : VEx → Env → List Ob → Prop} : vwp P (.own s k c) Q e H = (match get e s with
  | .val (.slice none 0 0) => vwp P c Q ((s, .os k H.length 0 [] 0 0 0) :: e) (H ++ [.obj 0 (.arr 0 k [])])
  | _ => vwp P c Q e H) := Aa rfl
theorem AqJ {s k : Nat} {p : List (Nat × Nat)} {c : Af} {Q : VEx → Env → List Ob → Prop} : vwp P (.ownB s p k c) Q e H = (match get e s with
  | .op id ver p0 => (match H[id]? with
   | some (.obj v x) => v = ver ∧ (match Jo (p0 ++ p) x with
    | some (.val (.slice none 0 0)) => (match TK (p0 ++ p) x (.os k H.length 0 [] 0 0 0) with
     | some x' => vwp P c Q e (H.set id (.obj ver x') ++ [.obj 0 (.arr 0 k [])])
     | none => False)
    | _ => vwp P c Q e H)
   | _ => False)
  | _ => False) := Aa rfl
theorem ApU {s : Nat} {t : TypeId} {p : List (Nat × Nat)} {c : Af} {Q : VEx → Env → List Ob → Prop} : vwp P (.ownT s p t c) Q e H = (match get e s with
  | .op id ver p0 => (match H[id]? with
   | some (.obj v x) => v = ver ∧ (match Jo (p0 ++ p) x with
    | some (.val (.slice none 0 0)) => (match TK (p0 ++ p) x (.os 1 H.length 0 [] 0 0 0) with
     | some x' => vwp P c Q e (H.set id (.obj ver x') ++ [.bld 0 t []])
     | none => False)
    | _ => vwp P c Q e H)
   | _ => False)
  | _ => False) := Aa rfl
theorem Aj4 {K : Env → List Ob → Prop} : YL P [] K e H = K e H := Aa rfl
theorem Apf {d : Nat} {o : POp} {r : List VO} {K : Env → List Ob → Prop} : YL P (⟨some d, .p o, none⟩ :: r) K e H = pop o e H fun x => YL P r K ((d, x) :: e) H := Aa rfl
theorem AqP {d : Nat} {o : SOp} {r : List VO} {K : Env → List Ob → Prop} : YL P (⟨some d, .s o, none⟩ :: r) K e H = sop P o e H fun x H => YL P r K ((d, x) :: e) H := Aa rfl
theorem Ank {o : SOp} {r : List VO} {K : Env → List Ob → Prop} : YL P (⟨none, .s o, none⟩ :: r) K e H = sop P o e H fun x H => YL P r K e H := Aa rfl
theorem Aov {d s : Nat} {o : VOp} {b : Bool} {r : List VO} {K : Env → List Ob → Prop} : YL P (⟨some d, o, some (s, b)⟩ :: r) K e H = Aah e s fun e q => match q with
 | some t => if t = b then vop P o e H (fun x H => YL P r K ((d, x) :: e) H) else YL P r K ((d, .val undef) :: e) H
 | none => YL P r K ((d, .val undef) :: e) H := Aa rfl
theorem A10 {o : POp} {K : TV → List Ob → Prop} : vop P (.p o) e H K = pop o e H fun x => K x H := Aa rfl
theorem A2r {o : SOp} {K : TV → List Ob → Prop} : vop P (.s o) e H K = sop P o e H K := Aa rfl
theorem Aom {K : Env → Prop} : vq P [] K e H = K e := Aa rfl
theorem A3B {d : Nat} {o : POp} {r : List VO} {K : Env → Prop} : vq P (⟨some d, .p o, none⟩ :: r) K e H = pop o e H fun x => vq P r K ((d, x) :: e) H := Aa rfl
theorem A3e {d : Nat} {f : FuncId} {args : List Opd} {r : List VO} {K : Env → Prop} : vq P (⟨some d, .s (.call f args), none⟩ :: r) K e H = ((∀ x ∈ args, BU (x.ev e) = false) ∧ ∃ x, Aq P f (args.map (·.ev e)) H (fun y H' => y = x ∧ H' = H) ∧ vq P r K ((d, x) :: e) H) := Aa rfl
theorem AnY {o : POp} {k : TV → Prop} : AbE P (.p o) e H k = pop o e H k := Aa rfl
theorem AmD {f : FuncId} {args : List Opd} {k : TV → Prop} : AbE P (.s (.call f args)) e H k = ((∀ x ∈ args, BU (x.ev e) = false) ∧ ∃ x, Aq P f (args.map (·.ev e)) H (fun y H' => y = x ∧ H' = H) ∧ k x) := Aa rfl
variable {t : TypeId} {a b : Int} {k : IntKind}
theorem Fv {n : Int} (h1 : -9223372036854775808 ≤ n) (h2 : n ≤ 9223372036854775807) : IntKind.i64.wrap n = n := by rw [IntKind.wrap_i64]; omega
theorem A1V (h1 : -9223372036854775808 ≤ a + b) (h2 : a + b ≤ 9223372036854775807) : H9 t .add (.int .i64 a) (.int .i64 b) = some (.int .i64 (a + b)) := by
 rw [show H9 t .add (.int .i64 a) (.int .i64 b) = some (.int .i64 (IntKind.i64.wrap (a + b))) from rfl, Fv h1 h2]
theorem Asj (h1 : -9223372036854775808 ≤ a - b) (h2 : a - b ≤ 9223372036854775807) : H9 t .sub (.int .i64 a) (.int .i64 b) = some (.int .i64 (a - b)) := by
 rw [show H9 t .sub (.int .i64 a) (.int .i64 b) = some (.int .i64 (IntKind.i64.wrap (a - b))) from rfl, Fv h1 h2]
theorem Arz (h1 : -9223372036854775808 ≤ a * b) (h2 : a * b ≤ 9223372036854775807) : H9 t .mul (.int .i64 a) (.int .i64 b) = some (.int .i64 (a * b)) := by
 rw [show H9 t .mul (.int .i64 a) (.int .i64 b) = some (.int .i64 (IntKind.i64.wrap (a * b))) from rfl, Fv h1 h2]
theorem Asa : H9 t .eql (.int k a) (.int k b) = some (.bool (decide (a = b))) := by
 rw [show H9 t .eql (.int k a) (.int k b) = some (.bool (a == b)) from by simp [H9, binOp, Op.intCmp]; rfl]; rfl
theorem Ar0 : H9 t .neq (.int k a) (.int k b) = some (.bool (!decide (a = b))) := by
 rw [show H9 t .neq (.int k a) (.int k b) = some (.bool (a != b)) from by simp [H9, binOp, Op.intCmp]; rfl]; rfl
theorem ArD : H9 t .lss (.int k a) (.int k b) = some (.bool (decide (a < b))) := by simp [H9, binOp, Op.intCmp]; rfl
theorem A14 : H9 t .leq (.int k a) (.int k b) = some (.bool (decide (a ≤ b))) := by simp [H9, binOp, Op.intCmp]; rfl
theorem A2z : H9 t .gtr (.int k a) (.int k b) = some (.bool (decide (b < a))) := by simp [H9, binOp, Op.intCmp]; rfl
theorem Asi : H9 t .geq (.int k a) (.int k b) = some (.bool (decide (b ≤ a))) := by simp [H9, binOp, Op.intCmp]; rfl
theorem Agw : DF 0 (.val (.pointer none)) = some true := Aa rfl
theorem Ag2 {i v : Nat} {p : List (Nat × Nat)} : DF 0 (.op i v p) = some false := Aa rfl
theorem Af4 {x : TV} : DF 0 (.fp x) = some false := Aa rfl
theorem AhZ : DF 1 (.val .nilIface) = some true := Aa rfl
theorem Afx {t : TypeId} {x : TV} : DF 1 (.ifc t x) = some false := Aa rfl
theorem AgC : DF 2 (.val (.map none)) = some true := Aa rfl
theorem AgS {i v : Nat} : DF 2 (.mp i v) = some false := Aa rfl
theorem AfV {i v : Nat} : DF 3 (.yl i v) = some false := Aa rfl
theorem AhD : DF 3 (.val .nilFunc) = some true := Aa rfl
theorem AhK {f : Fn} {a b : List TV} : DF 3 (.fn f a b) = some false := Aa rfl
theorem AqR {n : Int} (h0 : 0 ≤ n) (h1 : n < 18446744073709551616) : (BitVec.ofInt 64 n).toNat = n.toNat := by
 rw [BitVec.toNat_ofInt]
 have : n % ((2 ^ 64 : Nat) : Int) = n := Int.emod_eq_of_lt h0 (by simpa using h1)
 rw [this]
theorem Arw (h1 : 0 ≤ a) (h2 : a ≤ 9223372036854775807) (h3 : 0 ≤ b) (h4 : b ≤ 9223372036854775807) : H9 t .and (.int .i64 a) (.int .i64 b) = some (.int .i64 ((a.toNat &&& b.toNat : Nat) : Int)) := by
 rw [show H9 t .and (.int .i64 a) (.int .i64 b) = some (.int .i64 (IntKind.i64.wrap ((BitVec.ofInt 64 a &&& BitVec.ofInt 64 b).toNat : Int))) from rfl, BitVec.toNat_and, AqR h1 (by omega), AqR h3 (by omega)]
 have := Nat.and_le_left (n := a.toNat) (m := b.toNat)
 rw [Fv (by omega) (by omega)]
theorem A3D (h1 : 0 ≤ a) (h2 : a ≤ 9223372036854775807) (h3 : 0 ≤ b) (h4 : b ≤ 9223372036854775807) : H9 t .or (.int .i64 a) (.int .i64 b) = some (.int .i64 ((a.toNat ||| b.toNat : Nat) : Int)) := by
 rw [show H9 t .or (.int .i64 a) (.int .i64 b) = some (.int .i64 (IntKind.i64.wrap ((BitVec.ofInt 64 a ||| BitVec.ofInt 64 b).toNat : Int))) from rfl, BitVec.toNat_or, AqR h1 (by omega), AqR h3 (by omega)]
 have := Nat.or_lt_two_pow (n := 63) (x := a.toNat) (y := b.toNat) (by omega) (by omega)
 rw [Fv (by omega) (by omega)]
theorem Asm {k2 : IntKind} (h1 : 0 ≤ b) (h2 : b ≤ 63) (h3 : 0 ≤ a * 2 ^ b.toNat) (h4 : a * 2 ^ b.toNat ≤ 9223372036854775807) : H9 t .shl (.int .i64 a) (.int k2 b) = some (.int .i64 (a * 2 ^ b.toNat)) := by
 have e : binOp .shl t (.int .i64 a) (.int k2 b) = pure (.int .i64 (a * 2 ^ b.toNat)) := by
  show Op.shift .shl .i64 a k2 b = _
  unfold Op.shift
  rw [if_neg (by omega)]
  have hm : min b.toNat IntKind.i64.bits = b.toNat := by
   have : IntKind.i64.bits = 64 := rfl
   omega
  simp only [hm]
  rw [Fv (by omega) h4]
 unfold H9; rw [e]; rfl
theorem ArT {k2 : IntKind} (h1 : 0 ≤ b) (h2 : b ≤ 63) (h3 : 0 ≤ a) : H9 t .shr (.int .i64 a) (.int k2 b) = some (.int .i64 (a / 2 ^ b.toNat)) := by
 have e : binOp .shr t (.int .i64 a) (.int k2 b) = pure (.int .i64 (a / 2 ^ b.toNat)) := by
  show Op.shift .shr .i64 a k2 b = _
  unfold Op.shift
  rw [if_neg (by omega)]
  have hm : min b.toNat IntKind.i64.bits = b.toNat := by
   have : IntKind.i64.bits = 64 := rfl
   omega
  simp only [hm]
  rw [Int.fdiv_eq_ediv_of_nonneg _ (by exact Int.le_of_lt (Int.pow_pos (by omega)))]
 unfold H9; rw [e]; rfl
theorem Ar2 (h1 : 0 ≤ a) (h2 : b ≠ 0) : H9 t .rem (.int k a) (.int k b) = some (.int k (a % b)) := by
 have e : binOp .rem t (.int k a) (.int k b) = pure (.int k (a % b)) := by
  unfold binOp
  simp only [ne_eq, not_true_eq_false, if_false, Op.intDiv, h2, Int.tmod_eq_emod_of_nonneg h1]
 unfold H9; rw [e]; rfl
theorem ArX (h1 : 0 ≤ a) (h2 : 0 < b) (h3 : a ≤ 9223372036854775807) : H9 t .quo (.int .i64 a) (.int .i64 b) = some (.int .i64 (a / b)) := by
 have e : binOp .quo t (.int .i64 a) (.int .i64 b) = pure (.int .i64 (a / b)) := by
  unfold binOp
  simp only [ne_eq, not_true_eq_false, if_false, Op.intDiv, show ¬ b = 0 from by omega, Int.tdiv_eq_ediv_of_nonneg h1]
  have h4 : a / b ≤ a := Int.ediv_le_self _ h1
  have h5 : 0 ≤ a / b := Int.ediv_nonneg h1 (by omega)
  rw [Fv (by omega) (by omega)]
 unfold H9; rw [e]; rfl
theorem AoP {x y : UInt8} : H9 t .xor (.int .u8 (x.toNat : Int)) (.int .u8 (y.toNat : Int)) = some (.int .u8 ((x ^^^ y).toNat : Int)) := by
 rw [show H9 t .xor (.int .u8 (x.toNat : Int)) (.int .u8 (y.toNat : Int)) = some (.int .u8 (IntKind.u8.wrap ((BitVec.ofInt 8 (x.toNat : Int) ^^^ BitVec.ofInt 8 (y.toNat : Int)).toNat : Int))) from rfl]
 rw [BitVec.ofInt_natCast, BitVec.ofInt_natCast, UInt8.toNat_xor, BitVec.toNat_xor, BitVec.toNat_ofNat, BitVec.toNat_ofNat, Nat.mod_eq_of_lt x.toNat_lt, Nat.mod_eq_of_lt y.toNat_lt]
 have := Nat.xor_lt_two_pow (n := 8) x.toNat_lt y.toNat_lt
 rw [IntKind.wrap_u8]; congr 2; omega
theorem RV (l : List UInt8) : (str l).toList = l := by simp [str, ByteArray.toList_eq]
theorem AeB {l m : List UInt8} : (l == m) = decide (l = m) := by
 by_cases h : l = m <;> simp [h]
theorem Arq {l m : List UInt8} : H9 t .eql (.string (str l)) (.string (str m)) = some (.bool (decide (l = m))) := by
 rw [show H9 t .eql (.string (str l)) (.string (str m)) = some (.bool ((str l).toList == (str m).toList)) from rfl, RV, RV, AeB]
theorem AsL {l m : List UInt8} : H9 t .neq (.string (str l)) (.string (str m)) = some (.bool (!decide (l = m))) := by
 rw [show H9 t .neq (.string (str l)) (.string (str m)) = some (.bool (!((str l).toList == (str m).toList))) from rfl, RV, RV, AeB]
theorem AsE {b : Bool} : unV .not (.bool b) = some (.bool (!b)) := Aa rfl
theorem Aki {u : Value} : AjP (.int k a) u = true := by cases u <;> rfl
theorem AjN {s : ByteArray} {u : Value} : AjP (.string s) u = true := by cases u <;> rfl

theorem AjB {v : Value} : Ya (TV.val v) = false := Aa rfl
theorem Ajj  : Ya (TV.any) = false := Aa rfl
theorem Am6 {k : Nat} {cs : List TV} : Ya (TV.sl k cs) = false := Aa rfl
theorem Anl {x : TV} : Ya (TV.fp x) = false := Aa rfl
theorem Am4 {i : Nat} {v : Nat} {p : List (Nat × Nat)} : Ya (TV.op i v p) = false := Aa rfl
theorem AnO {k : Nat} {i : Nat} {v : Nat} {p : List (Nat × Nat)} {o : Nat} {n : Nat} {cp : Nat} : Ya (TV.os k i v p o n cp) = false := Aa rfl
theorem Alu {cs : List TV} : Ya (TV.agg cs) = true := Aa rfl
theorem Ai6 {n : Nat} {k : Nat} {cs : List TV} : Ya (TV.arr n k cs) = true := Aa rfl
theorem Ai8 {vs : List TV} : Ya (TV.tup vs) = false := Aa rfl
theorem Ai3 {t : TypeId} {x : TV} : Ya (TV.ifc t x) = false := Aa rfl
theorem AmZ {f : Fn} {a : List TV} {b : List TV} : Ya (TV.fn f a b) = false := Aa rfl
theorem AmO {i : Nat} {v : Nat} : Ya (TV.mp i v) = false := Aa rfl
theorem Am2 {i : Nat} {v : Nat} : Ya (TV.yl i v) = false := Aa rfl
theorem Ag0 {v : Value} : BU (TV.val v) = false := Aa rfl
theorem AgM  : BU (TV.any) = false := Aa rfl
theorem Ajl {k : Nat} {cs : List TV} : BU (TV.sl k cs) = false := Aa rfl
theorem Ala {x : TV} : BU (TV.fp x) = false := Aa rfl
theorem AiS {i : Nat} {v : Nat} {p : List (Nat × Nat)} : BU (TV.op i v p) = false := Aa rfl
theorem AiL {k : Nat} {i : Nat} {v : Nat} {p : List (Nat × Nat)} {o : Nat} {n : Nat} {cp : Nat} : BU (TV.os k i v p o n cp) = false := Aa rfl
theorem Ahf {cs : List TV} : BU (TV.agg cs) = false := Aa rfl
theorem AgR {n : Nat} {k : Nat} {cs : List TV} : BU (TV.arr n k cs) = false := Aa rfl
theorem Ahm {vs : List TV} : BU (TV.tup vs) = true := Aa rfl
theorem Ahy {t : TypeId} {x : TV} : BU (TV.ifc t x) = false := Aa rfl
theorem Ako {f : Fn} {a : List TV} {b : List TV} : BU (TV.fn f a b) = false := Aa rfl
theorem Akw {i : Nat} {v : Nat} : BU (TV.mp i v) = false := Aa rfl
theorem Ajq {i : Nat} {v : Nat} : BU (TV.yl i v) = false := Aa rfl
theorem AiP  : lays (TV.any) = false := Aa rfl
theorem AnM {k : Nat} {cs : List TV} : lays (TV.sl k cs) = true := Aa rfl
theorem Amy {x : TV} : lays (TV.fp x) = true := Aa rfl
theorem An8 {i : Nat} {v : Nat} {p : List (Nat × Nat)} : lays (TV.op i v p) = true := Aa rfl
theorem Amq {k : Nat} {i : Nat} {v : Nat} {p : List (Nat × Nat)} {o : Nat} {n : Nat} {cp : Nat} : lays (TV.os k i v p o n cp) = true := Aa rfl
theorem Aku {cs : List TV} : lays (TV.agg cs) = true := Aa rfl
theorem AiY {n : Nat} {k : Nat} {cs : List TV} : lays (TV.arr n k cs) = true := Aa rfl
theorem Aiy {vs : List TV} : lays (TV.tup vs) = false := Aa rfl
theorem Ajw {t : TypeId} {x : TV} : lays (TV.ifc t x) = true := Aa rfl
theorem Ang {f : Fn} {a : List TV} {b : List TV} : lays (TV.fn f a b) = true := Aa rfl
theorem AlR {i : Nat} {v : Nat} : lays (TV.mp i v) = true := Aa rfl
theorem AmN {i : Nat} {v : Nat} : lays (TV.yl i v) = true := Aa rfl
theorem AgT {v : Value} : DW (TV.val v) = true := Aa rfl
theorem Af3  : DW (TV.any) = true := Aa rfl
theorem AkZ {k : Nat} {cs : List TV} : DW (TV.sl k cs) = true := Aa rfl
theorem Akz {x : TV} : DW (TV.fp x) = true := Aa rfl
theorem AjD {i : Nat} {v : Nat} {p : List (Nat × Nat)} : DW (TV.op i v p) = false := Aa rfl
theorem Ak7 {k : Nat} {i : Nat} {v : Nat} {p : List (Nat × Nat)} {o : Nat} {n : Nat} {cp : Nat} : DW (TV.os k i v p o n cp) = false := Aa rfl
theorem AfU {n : Nat} {k : Nat} {cs : List TV} : DW (TV.arr n k cs) = true := Aa rfl
theorem Alf {i : Nat} {v : Nat} : DW (TV.mp i v) = false := Aa rfl
theorem Ai2 {i : Nat} {v : Nat} : DW (TV.yl i v) = false := Aa rfl
theorem AgF {v : Value} : AB (TV.val v) = 1 := Aa rfl
theorem AgH  : AB (TV.any) = 1 := Aa rfl
theorem AiD {k : Nat} {cs : List TV} : AB (TV.sl k cs) = 1 := Aa rfl
theorem Alv {x : TV} : AB (TV.fp x) = 1 := Aa rfl
theorem AjM {i : Nat} {v : Nat} {p : List (Nat × Nat)} : AB (TV.op i v p) = 1 := Aa rfl
theorem Akr {k : Nat} {i : Nat} {v : Nat} {p : List (Nat × Nat)} {o : Nat} {n : Nat} {cp : Nat} : AB (TV.os k i v p o n cp) = 1 := Aa rfl
theorem Aij {vs : List TV} : AB (TV.tup vs) = 1 := Aa rfl
theorem Aig {t : TypeId} {x : TV} : AB (TV.ifc t x) = 1 := Aa rfl
theorem AiW {f : Fn} {a : List TV} {b : List TV} : AB (TV.fn f a b) = 1 := Aa rfl
theorem Ali {i : Nat} {v : Nat} : AB (TV.mp i v) = 1 := Aa rfl
theorem Alt {i : Nat} {v : Nat} : AB (TV.yl i v) = 1 := Aa rfl
theorem Ahr {cs : List TV} : AB (.agg cs) = BF cs := by rw [AB]
theorem Ais {n k : Nat} {cs : List TV} : AB (.arr n k cs) = n * k := by rw [AB]
theorem AfD : BF [] = 0 := Aa rfl
theorem Ado {x : TV} {xs : List TV} : BF (x :: xs) = AB x + BF xs := by rw [BF]
theorem Agb {cs : List TV} : DW (.agg cs) = CO cs := by rw [DW]
theorem AhX {t : TypeId} {x : TV} : DW (.ifc t x) = DW x := by rw [DW]
theorem AgB {cs : List TV} : DW (.tup cs) = CO cs := by rw [DW]
theorem Aho : CO [] = true := Aa rfl
theorem Afm {x : TV} {xs : List TV} : CO (x :: xs) = (DW x && CO xs) := by rw [CO]
theorem Ajx {k : IntKind} {n : Int} : lays (.val (.int k n)) = true := Aa rfl
theorem AhR {b : Bool} : lays (.val (.bool b)) = true := Aa rfl
theorem Adv {s : ByteArray} : lays (.val (.string s)) = true := Aa rfl
theorem Ab5 {p : Option Addr} : lays (.val (.pointer p)) = true := Aa rfl
theorem AfC {p : Option Addr} {n c : Nat} : lays (.val (.slice p n c)) = true := Aa rfl
theorem Alo {r : Option Nat} : lays (.val (.map r)) = true := Aa rfl
theorem AgY {f : Fn} {a b : Array Value} : lays (.val (.func f a b)) = true := Aa rfl
theorem Acg : lays (.val .nilFunc) = true := Aa rfl
theorem AaX : lays (.val .nilIface) = true := Aa rfl
theorem A3q {e : Env} {n : Nat} : (Opd.t n).ev e = get e n := Aa rfl
theorem A3C {e : Env} {n : Nat} : (Opd.g n).ev e = (match TD n with | some x => .fp x.tv | none => .val (.pointer (some ⟨n, 0, none⟩))) := Aa rfl
theorem A3i {e : Env} {v : Value} : (Opd.c v).ev e = .val v := Aa rfl
theorem Aj7 {x : TV} : Jo [] x = some x := Aa rfl
theorem Aly {i d : Nat} {p : List (Nat × Nat)} {cs : List TV} : Jo ((i, d) :: p) (.agg cs) = if BF (cs.take i) = d then (cs[i]?).bind (Jo p) else none := by rw [Jo]
theorem AiO {i d n k : Nat} {p : List (Nat × Nat)} {cs : List TV} : Jo ((i, d) :: p) (.arr n k cs) = if d = i * k then (cs[i]?).bind (Jo p) else none := by rw [Jo]
theorem AeM {x y : TV} : TK [] x y = if AB y = AB x then some y else none := by rw [TK]
theorem AkW {i d : Nat} {p : List (Nat × Nat)} {cs : List TV} {y : TV} : TK ((i, d) :: p) (.agg cs) y = if BF (cs.take i) = d then (cs[i]?).bind fun c => (TK p c y).map fun c' => .agg (cs.set i c') else none := by rw [TK]
theorem Akc {i d n k : Nat} {p : List (Nat × Nat)} {cs : List TV} {y : TV} : TK ((i, d) :: p) (.arr n k cs) y = if d = i * k ∧ DW y = true then (cs[i]?).bind fun c => (TK p c y).map fun c' => .arr n k (cs.set i c') else none := by rw [TK]
theorem Afn {e : Env} : forget [] e = [] := Aa rfl
theorem AdU {e : Env} {s : Nat} {ks : List Nat} : forget (s :: ks) e = (s, get e s) :: forget ks e := Aa rfl
theorem Ah2 {i : Nat} : AbG i [] = [] := Aa rfl
theorem AeS {i : Nat} {x : TV} {xs : List TV} : AbG i (x :: xs) = (i, x) :: AbG (i + 1) xs := Aa rfl
theorem AjU {ag : Bool} {sz : Nat} {y : TV} : AaH ag sz y = (AB y = sz ∧ Ya y = ag) := Aa rfl
theorem AfP {H : List Ob} {k k2 : Nat} {cs : List TV} : BQ H k (.sl k2 cs) = if k2 = k then some cs else none := Aa rfl
theorem AdK {H : List Ob} {k : Nat} {p : Option Addr} {n c : Nat} : BQ H k (.val (.slice p n c)) = if n = 0 ∧ p.isNone ∧ c = 0 then some [] else none := Aa rfl
theorem Ae5 {H : List Ob} {k k2 i v o n cp : Nat} {p : List (Nat × Nat)} : BQ H k (.os k2 i v p o n cp) = if k2 = k then (match H[i]? with | some (.obj vr x) => if vr = v then Di p k o n x else none | _ => none) else none := Aa rfl
theorem AdX {k k2 o n N : Nat} {cs : List TV} : Di [] k o n (.arr N k2 cs) = if k2 = k ∧ o + n ≤ cs.length then some ((cs.drop o).take n) else none := Aa rfl
theorem Agm {e : Env} {zs : List TV} : Eo e zs [] = zs := Aa rfl
theorem Ae8 {e : Env} {zs : List TV} {i : Nat} {x : Opd} {ps : List (Nat × Opd)} : Eo e zs ((i, x) :: ps) = Eo e (zs.set i (x.ev e)) ps := Aa rfl
theorem Adf {e : Env} {ks : List Nat} : DJ e ks [] = True := Aa rfl
theorem AbW {e : Env} {ks : List Nat} {i : Nat} {x : Opd} {ps : List (Nat × Opd)} : DJ e ks ((i, x) :: ps) = ((lays (x.ev e) = true ∧ ks[i]? = some (AB (x.ev e))) ∧ DJ e ks ps) := Aa rfl
theorem Aa3 {e : Env} : Bg e [] = True := Aa rfl
theorem Z7 {e : Env} {i : Nat} {x : Opd} {ps : List (Nat × Opd)} : Bg e ((i, x) :: ps) = (DW (x.ev e) = true ∧ Bg e ps) := Aa rfl
theorem Ant {t : Nat} {e : Env} {H : List Ob} {K : TV → Prop} : res [.tmp t] e H K = K (get e t) := Aa rfl
theorem Ajn {a sz : Nat} {ag : Bool} {e : Env} {H : List Ob} {K : TV → Prop} : res [.cell a ag sz] e H K = pop (.load ag sz (.t a)) e H K := Aa rfl
theorem AhC {e : Env} {H : List Ob} {K : TV → Prop} : res [] e H K = ((∀ x ∈ ([] : List TV), BU x = false) ∧ K (.tup [])) := Aa rfl
theorem A2w {r s : VR} {e : Env} {H : List Ob} {K : TV → Prop} : res [r, s] e H K = Ac7 [r, s] e H fun xs => match xs with | [x] => K x | xs => (∀ x ∈ xs, BU x = false) ∧ K (.tup xs) := Aa rfl
theorem Aj9 {r s : VR} {l : List VR} {e : Env} {H : List Ob} {K : TV → Prop} : res (r :: s :: l) e H K = Ac7 (r :: s :: l) e H fun xs => match xs with | [x] => K x | xs => (∀ x ∈ xs, BU x = false) ∧ K (.tup xs) := Aa rfl
theorem Aem {e : Env} {H : List Ob} {K : List TV → Prop} : Ac7 [] e H K = K [] := Aa rfl
theorem Alb {t : Nat} {r : List VR} {e : Env} {H : List Ob} {K : List TV → Prop} : Ac7 (.tmp t :: r) e H K = Ac7 r e H fun xs => K (get e t :: xs) := Aa rfl
theorem AcM {a sz : Nat} {ag : Bool} {r : List VR} {e : Env} {H : List Ob} {K : List TV → Prop} : Ac7 (.cell a ag sz :: r) e H K = pop (.load ag sz (.t a)) e H fun x => Ac7 r e H fun xs => K (x :: xs) := Aa rfl
theorem AcL {vr : List VR} {R : TV → List Ob → Prop} {e : Env} {H : List Ob} : Zq vr R .ret e H = res vr e H fun x => R x H := Aa rfl
theorem AcQ {vr : List VR} {R : TV → List Ob → Prop} {e : Env} {H : List Ob} : Zq vr R .nor e H = res vr e H fun x => R x H := Aa rfl
theorem Ak4 {H : List Ob} {g : TV → Option TV} {v : Value} : Fp H g (TV.val v) = some (.val v) := by rw [Fp]
theorem Ald {H : List Ob} {g : TV → Option TV}  : Fp H g (TV.any) = some (.any) := by rw [Fp]
theorem AnS {H : List Ob} {g : TV → Option TV} {k : Nat} {cs : List TV} : Fp H g (TV.sl k cs) = some (.sl k cs) := by rw [Fp]
theorem Amv {H : List Ob} {g : TV → Option TV} {x : TV} : Fp H g (TV.fp x) = some (.fp x) := by rw [Fp]
theorem Ak8 {H : List Ob} {g : TV → Option TV} {n : Nat} {k : Nat} {cs : List TV} : Fp H g (TV.arr n k cs) = some (.arr n k cs) := by rw [Fp]
theorem Amx {H : List Ob} {g : TV → Option TV} {k i v o n cp : Nat} {p : List (Nat × Nat)} : Fp H g (.os k i v p o n cp) = (match H[i]? with | some (.obj vr x) => if vr = v then (Di p k o n x).map (.sl k) else none | _ => none) := by rw [Fp]; rfl
theorem AmT {H : List Ob} {g : TV → Option TV} {i v : Nat} {p : List (Nat × Nat)} : Fp H g (.op i v p) = (match H[i]? with | some (.obj vr x) => if vr = v then (Jo p x).bind fun y => (g y).map .fp else none | _ => none) := by rw [Fp]; rfl
theorem Ai7 {H : List Ob} {g : TV → Option TV} {cs : List TV} : Fp H g (.agg cs) = (Nc H g cs).map .agg := by rw [Fp]
theorem Aks {H : List Ob} {g : TV → Option TV} {cs : List TV} : Fp H g (.tup cs) = (Nc H g cs).map .tup := by rw [Fp]
theorem AjT {H : List Ob} {g : TV → Option TV} {t : TypeId} {x : TV} : Fp H g (.ifc t x) = (Fp H g x).map (.ifc t) := by rw [Fp]
theorem Af6 {H : List Ob} {g : TV → Option TV} : Nc H g [] = some [] := Aa rfl
theorem Ae4 {H : List Ob} {g : TV → Option TV} {x : TV} {xs : List TV} : Nc H g (x :: xs) = (match Fp H g x, Nc H g xs with | some x, some xs => some (x :: xs) | _, _ => none) := by rw [Nc]; rfl
theorem ArA {H : List Ob} {x : TV} : frz H x = Fp H (AfS H 2) x := Aa rfl
theorem Ap5 {H : List Ob} {x : List TV} : Aq9 H x = Nc H (AfS H 2) x := Aa rfl
theorem ApH {H : List Ob} {d : Nat} {x : TV} : AfS H (d + 1) x = Fp H (AfS H d) x := Aa rfl
theorem AnU {H : List Ob} {v : Value} : frs H (.val v) = some (.val v) := by rw [frs]
theorem AnJ {H : List Ob} : frs H .any = some .any := by rw [frs]
theorem ApR {H : List Ob} {k i v o n cp : Nat} {p : List (Nat × Nat)} : frs H (.os k i v p o n cp) = (match H[i]? with | some (.obj vr x) => if vr = v then (match Di p k o n x with | some cs => if J5 cs then some (.sl k cs) else none | none => none) else none | _ => none) := by rw [frs]; try rfl
theorem Amb {H : List Ob} {cs : List TV} : frs H (.agg cs) = (Ac8 H cs).map .agg := by rw [frs]
theorem Al6 {H : List Ob} {n k : Nat} {cs : List TV} : frs H (.arr n k cs) = if J5 cs then some (.arr n k cs) else none := by rw [frs]
theorem Amm {H : List Ob} {cs : List TV} : frs H (.tup cs) = (Ac8 H cs).map .tup := by rw [frs]
theorem Anf {H : List Ob} {t : TypeId} {x : TV} : frs H (.ifc t x) = (frs H x).map (.ifc t) := by rw [frs]
theorem AjW {H : List Ob} : Ac8 H [] = some [] := by rw [Ac8]
theorem Agl {H : List Ob} {x : TV} {xs : List TV} : Ac8 H (x :: xs) = (match frs H x, Ac8 H xs with | some x, some xs => some (x :: xs) | _, _ => none) := by rw [Ac8]; try rfl
theorem AcC {l : List UInt8} : J5 (l.map by8) = true := by
 induction l with
 | nil => rfl
 | cons x l ih => rw [List.map_cons, J5, ih]; rfl
theorem AkH {l : List (List UInt8)} : J5 (l.map ts) = true := by
 induction l with
 | nil => rfl
 | cons x l ih => rw [List.map_cons, J5, ih]; rfl
theorem Als {l : List UInt8} : (l.map by8).map Y1 = l := by
 rw [List.map_map]
 have : (Y1 ∘ by8) = id := by funext b; simp
 rw [this, List.map_id]
theorem Akk {l : List UInt8} : (∀ y ∈ l.map by8, AfR y) = True := by simp
theorem AkY {a b : Nat} : ((a : Int) + (b : Int)) = ((a + b : Nat) : Int) := by omega
theorem Anj {a b : Nat} : ((a : Int) < (b : Int)) = (a < b) := by simp
theorem AnF {a b : Nat} : ((a : Int) ≤ (b : Int)) = (a ≤ b) := by simp
theorem AlX {a b : Nat} : ((a : Int) = (b : Int)) = (a = b) := propext ⟨fun h => by omega, fun h => by omega⟩
theorem Amn {a : Nat} : (0 ≤ (a : Int)) = True := by simp

theorem AoJ {d s : Nat} {x : TV} : get ((d, x) :: e) s = if d = s then x else get e s := Aa rfl
end
end Go.Proofs.YtingoaihnlhiaaaDoor


namespace Go.Proofs.YtingoaihnlhiaaaDoor
open Go.RowKit
variable [A7]
set_option linter.unusedSectionVars false
set_option linter.unusedSimpArgs false
set_option linter.unusedVariables false
set_option autoImplicit false
universe u
set_option linter.defProp false

/-- (What it marks is not QW into by simp.) -/
class Tg {α : Sort u} (a : α) : Type where
instance tg {α : Sort u} (a : α) : Tg a := {}
def vif (t : Bool) (A B : Prop) [Tg A] [Tg B] : Prop := if t = true then A else B
def Be {α : Type} (o : Option α) (K : α → Prop) [Tg K] : Prop := match o with | some y => K y | none => False
def Dx (A K : Prop) [Tg K] : Prop := A ∧ K
def A8 {α : Type} (x : α) (K : α → Prop) [Tg K] : Prop := K x
def vex (K : TV → Prop) [Tg K] : Prop := ∃ x, K x
def VC (P : Program) (f : FuncId) (xs : List TV) (H : List Ob) (K : TV → List Ob → Prop) [Tg K] : Prop := Aq P f xs H K
def VY (P : Program) (id ver : Nat) (xs : List TV) (H : List Ob) (K : TV → List Ob → Prop) [Tg K] : Prop := Zg P id ver xs H K
theorem Ea {P : Program} {f : FuncId} {xs : List TV} {H : List Ob} {K : TV → List Ob → Prop} (h : Aq P f xs H K) : VC P f xs H K := h
section
variable {A A' B K : Prop} {α : Type}
@[congr] theorem AqF {t t' : Bool} (h : t = t') : vif t A B = vif t' A B := by rw [h]
@[congr] theorem Aoj {o o' : Option α} {K : α → Prop} (h : o = o') : Be o K = Be o' K := by rw [h]
@[congr] theorem Aof (h : A = A') : Dx A K = Dx A' K := by rw [h]
@[congr] theorem Aog {x x' : α} {K : α → Prop} (h : x = x') : A8 x K = A8 x' K := by rw [h]
@[congr] theorem Ap4 {P : Program} {c : Af} {Q : VEx → Env → List Ob → Prop} {e e' : Env} {H H' : List Ob} (he : e = e') (hH : H = H') : vwp P c Q e H = vwp P c Q e' H' := by rw [he, hH]
@[congr] theorem AqS {P : Program} {f : FuncId} {xs xs' : List TV} {H H' : List Ob} {K : TV → List Ob → Prop} (he : xs = xs') (hH : H = H') : VC P f xs H K = VC P f xs' H' K := by rw [he, hH]
@[congr] theorem Aq2 {P : Program} {id ver : Nat} {xs xs' : List TV} {H H' : List Ob} {K : TV → List Ob → Prop} (he : xs = xs') (hH : H = H') : VY P id ver xs H K = VY P id ver xs' H' K := by rw [he, hH]
theorem Aiz : vif true A B = A := by simp [vif]
theorem Aip : vif false A B = B := by simp [vif]
theorem ApT {p : Prop} [Decidable p] (h : p) : vif (decide p) A B = A := by simp [vif, h]
theorem AoA {p : Prop} [Decidable p] (h : ¬ p) : vif (decide p) A B = B := by simp [vif, h]
theorem Anz {t : Bool} : vif (!t) A B = vif t B A := by cases t <;> simp [vif]
theorem AmL {s t : Bool} : vif (s && t) A B = vif s (vif t A B) B := by cases s <;> simp [vif]
theorem AoL {s t : Bool} : vif (s || t) A B = vif s A (vif t A B) := by cases s <;> simp [vif]
theorem Ag8 {y : α} {K : α → Prop} : Be (some y) K = K y := rfl
theorem AiQ {β : Type} {f : α → β} {o : Option α} {K : β → Prop} : Be (o.map f) K = Be o fun y => K (f y) := by cases o <;> rfl
theorem AmJ {cs : List α} {i : Nat} {K : α → Prop} (h : i < cs.length) : Be cs[i]? K = K cs[i] := by rw [List.getElem?_eq_getElem h]; rfl
theorem AhI (h : A) : Dx A K = K := by simp [Dx, h]
theorem Apr : Dx True K = K := by simp [Dx]
theorem Akd : Dx (A ∧ B) K = Dx A (Dx B K) := by simp [Dx, and_assoc]
theorem Ana {x : α} {K : α → Prop} : A8 x K = K x := rfl
end

def FK : Option Ob → Nat → Option TV
 | some (.obj v x), ver => if v = ver then some x else none
 | _, _ => none
theorem AkE {v : Nat} {x : TV} : FK (some (.obj v x)) v = some x := by simp [FK]
section
variable {H l : List Ob} {o : Ob} {n k : Nat}
theorem Acu (h : H.length = n) : (H ++ l)[n]? = l[0]? := by rw [List.getElem?_append_right (by omega), h, Nat.sub_self]
theorem AlZ (h : H.length = n) : (H ++ l)[n + k]? = l[k]? := by rw [List.getElem?_append_right (by omega)]; congr 1; omega
theorem Bf (h : n < H.length) : (H ++ l)[n]? = H[n]? := List.getElem?_append_left h
theorem Ao7 (h : n < H.length) : (H.set n o)[n]? = some o := by simp [h]
theorem AhV {m : Nat} (h : m ≠ n) : (H.set m o)[n]? = H[n]? := by rw [List.getElem?_set_ne h]
theorem Amr (h : H.length = n) : (H ++ l).set n o = H ++ l.set 0 o := by rw [List.set_append_right _ _ (by omega), h, Nat.sub_self]
theorem Aj0 (h : H.length = n) : (H ++ l).set (n + k) o = H ++ l.set k o := by rw [List.set_append_right _ _ (by omega)]; congr 2; omega
theorem Us (h : n < H.length) : (H ++ l).set n o = H.set n o ++ l := List.set_append_left _ _ h
end

section
variable {P : Program} {e : Env} {H : List Ob}
def Ah8 (c a b : TV) (K : TV → Prop) [Tg K] : Prop := match c with | .val (.bool t) => K (if t then a else b) | _ => False
def AqW (t : TypeId) (op : BinOp) (x y : TV) (K : TV → Prop) [Tg K] : Prop := match x, y with
  | .val u, .val v => AjP u v = true ∧ (match H9 t op u v with | some r => K (.val r) | none => False)
  | _, _ => False
def Pun (op : UnOp) (x : TV) (K : TV → Prop) [Tg K] : Prop := match x with
  | .val u => (match unV op u with | some r => K (.val r) | none => False)
  | _ => False
def Akb (k : IntKind) (x : TV) (K : TV → Prop) [Tg K] : Prop := match x with
  | .val (.int _ n) => K (.val (.int k (k.wrap n)))
  | _ => False
def Arc (x : TV) (K : TV → Prop) [Tg K] : Prop := match x with
  | .val (.string s) => K (.val (.string s))
  | _ => False
def Aq6 (x : Option (List TV)) (K : TV → Prop) [Tg K] : Prop := match x with
  | some cs => (∀ y ∈ cs, AfR y) ∧ K (.val (.string (str (cs.map Y1))))
  | none => False
def AdB (H : List Ob) (ag : Bool) (sz : Nat) (x : TV) (K : TV → Prop) [Tg K] : Prop := match x with
  | .fp y => AaH ag sz y ∧ K y
  | .op id ver p => (match H[id]? with
   | some (.obj v x) => v = ver ∧ (match Jo p x with | some y => AaH ag sz y ∧ K y | none => False)
   | _ => False)
  | _ => False
def XD (i off : Nat) (x : TV) (K : TV → Prop) [Tg K] : Prop := match x with
  | .op id ver p => K (.op id ver (p ++ [(i, off)]))
  | .fp (.agg cs) => BF (cs.take i) = off ∧ (match cs[i]? with | some y => K (.fp y) | none => False)
  | _ => False
def AcJ (ag : Bool) (sz i off : Nat) (x : TV) (K : TV → Prop) [Tg K] : Prop := match x with
  | .agg cs => BF (cs.take i) = off ∧ (match cs[i]? with | some y => AaH ag sz y ∧ K y | none => False)
  | _ => False
def AfB (k : Nat) (x i : TV) (K : TV → Prop) [Tg K] : Prop := match x, i with
  | .sl k' cs, .val (.int _ j) => k' = k ∧ 0 ≤ j ∧ (match cs[j.toNat]? with | some y => K (.fp y) | none => False)
  | .os k' id ver p off n cp, .val (.int _ j) => k' = k ∧ 0 ≤ j ∧ j < n ∧ K (.op id ver (p ++ [(off + j.toNat, (off + j.toNat) * k)]))
  | _, _ => False
def AaI (n k : Nat) (x i : TV) (K : TV → Prop) [Tg K] : Prop := match x, i with
  | .fp (.arr n' k' cs), .val (.int _ j) => k' = k ∧ n' = n ∧ 0 ≤ j ∧ (match cs[j.toNat]? with | some y => K (.fp y) | none => False)
  | .op id ver p, .val (.int _ j) => 0 ≤ j ∧ j < n ∧ K (.op id ver (p ++ [(j.toNat, j.toNat * k)]))
  | _, _ => False
def Aop (ag : Bool) (n k : Nat) (x i : TV) (K : TV → Prop) [Tg K] : Prop := match x, i with
  | .arr n' k' cs, .val (.int _ j) => k' = k ∧ n' = n ∧ 0 ≤ j ∧ (match cs[j.toNat]? with | some y => AaH ag k y ∧ K y | none => False)
  | _, _ => False
def Aih (x i : TV) (K : TV → Prop) [Tg K] : Prop := match x, i with
  | .val (.string s), .val (.int _ j) => 0 ≤ j ∧ (match (bl s)[j.toNat]? with | some b => K (by8 b) | none => False)
  | _, _ => False
def AoT (i : Nat) (x : TV) (K : TV → Prop) [Tg K] : Prop := match x with
  | .tup xs => (match xs[i]? with | some y => K y | none => False)
  | _ => False
def Akp (x : TV) (K : TV → Prop) [Tg K] : Prop := match x with
  | .val (.string s) => K (.val (.int .i64 (bl s).length))
  | _ => False
def Ae3 (x : TV) (K : TV → Prop) [Tg K] : Prop := match x with
  | .val (.slice _ n _) => K (.val (.int .i64 n))
  | .sl _ cs => K (.val (.int .i64 cs.length))
  | .os _ _ _ _ _ n _ => K (.val (.int .i64 n))
  | _ => False
def Abk (lo hi : Option TV) (len lim : Nat) (K : Nat → Nat → Prop) [Tg K] : Prop :=
 match (match lo with | none => some 0 | some x => (match x with | .val (.int _ i) => some i | _ => none)), (match hi with | none => some (len : Int) | some x => (match x with | .val (.int _ i) => some i | _ => none)) with
 | some l, some h => (0 ≤ l ∧ l ≤ h ∧ h ≤ lim) ∧ K l.toNat h.toNat
 | _, _ => False
def evO (e : Env) : Option Opd → Option TV
 | none => none
 | some x => some (x.ev e)
theorem AkN : evO e none = none := Aa rfl
theorem Aj8 {x : Opd} : evO e (some x) = some (x.ev e) := Aa rfl
theorem AgE {lo hi : Option Opd} {len lim : Nat} {K : Nat → Nat → Prop} : bnd e lo hi len lim K = Abk (evO e lo) (evO e hi) len lim K := by
 cases lo <;> cases hi <;> rfl
def Aq3 (x : TV) (lo hi : Option TV) (K : TV → Prop) [Tg K] : Prop := match x with
  | .val (.string s) => Abk lo hi (bl s).length (bl s).length fun l h => K (.val (.string (str (((bl s).drop l).take (h - l)))))
  | _ => False
def Aod (k : Nat) (x : TV) (lo hi : Option TV) (K : TV → Prop) [Tg K] : Prop := match x with
  | .sl k' cs => k' = k ∧ Abk lo hi cs.length cs.length fun l h => K (.sl k ((cs.drop l).take (h - l)))
  | .os k' id ver p off n cp => k' = k ∧ Abk lo hi n cp fun l h => K (.os k id ver p (off + l) (h - l) (cp - l))
  | .val (.slice ad 0 0) => Abk lo hi 0 0 fun l h => K (.val (.slice ad 0 0))
  | _ => False
def Aoa (H : List Ob) (n k : Nat) (x : TV) (lo hi : Option TV) (K : TV → Prop) [Tg K] : Prop := match x with
  | .fp (.arr n' k' cs) => k' = k ∧ n' = n ∧ n ≤ 9223372036854775807 ∧ Abk lo hi n n fun l h => K (.sl k ((cs.drop l).take (h - l)))
  | .op id ver p => (match H[id]? with
   | some (.obj v x) => v = ver ∧ n ≤ 9223372036854775807 ∧ (match Jo p x with | some (.arr n' k' cs) => k' = k ∧ n' = n ∧ Abk lo hi n n fun l h => K (.os k id ver p l (h - l) (n - l)) | _ => False)
   | _ => False)
  | _ => False
def Aec (t : TypeId) (x : TV) (K : TV → Prop) [Tg K] : Prop := lays x = true ∧ K (.ifc t x)
def Apz (f : Fn) (first caps : List TV) (K : TV → Prop) [Tg K] : Prop := (∀ x ∈ first ++ caps, BU x = false) ∧ K (.fn f first caps)
def Acy (x : TV) (K : TV → Prop) [Tg K] : Prop := match x with
  | .op id ver p => K (.op id ver p)
  | .fp y => K (.fp y)
  | .fn (.func f) a b => K (.fn (.func f) a b)
  | .ifc t y => K (.ifc t y)
  | .val (.func (.func f) a b) => K (.val (.func (.func f) a b))
  | _ => False
def AqQ (x y : TV) (K : TV → Prop) [Tg K] : Prop := match x, y with
  | .val (.int k a), .val (.int _ b) => K (.val (.int k (if b < a then b else a)))
  | _, _ => False
def AqX (x y : TV) (K : TV → Prop) [Tg K] : Prop := match x, y with
  | .val (.int k a), .val (.int _ b) => K (.val (.int k (if b > a then b else a)))
  | _, _ => False
def Z4 (g : GOp) (H : List Ob) (xs : List TV) (K : TV → Prop) [Tg K] : Prop := match gev g H xs with
  | some y => K y
  | none => False
def Aoq (neg : Bool) (x y : TV) (K : TV → Prop) [Tg K] : Prop := match x, y with
  | .val (.bool a), .val (.bool b) => K (.val (.bool (xor neg (a == b))))
  | _, _ => False
def Aoy (neg : Bool) (x y : Option Bool) (K : TV → Prop) [Tg K] : Prop := match x, y with
  | some true, some b => K (.val (.bool (xor neg b)))
  | some false, some true => K (.val (.bool (xor neg false)))
  | _, _ => False
def AcW (H : List Ob) (sz : Nat) (x v : TV) (K : TV → List Ob → Prop) [Tg K] : Prop := (lays v = true ∧ AB v = sz) ∧ (match x with
  | .op id ver p => (match H[id]? with
   | some (.obj vr y) => vr = ver ∧ (match TK p y v with | some y' => K .any (H.set id (.obj ver y')) | none => False)
   | _ => False)
  | _ => False)
def AqV (H : List Ob) (k bytes : Nat) (z l c : TV) (K : TV → List Ob → Prop) [Tg K] : Prop := match l, c with
  | .val (.int _ l), .val (.int _ c) => (0 ≤ l ∧ l ≤ c ∧ (bytes : Int) * c ≤ 281474976710656 ∧ c ≤ 9223372036854775807) ∧ K (.os k H.length 0 [] 0 l.toNat c.toNat) (H ++ [.obj 0 (.arr c.toNat k (List.replicate c.toNat z))])
  | _, _ => False
def Anu (k bytes : Nat) (et : TypeId) (x : TV) (y : Option (List TV)) (H : List Ob) (K : TV → List Ob → Prop) [Tg K] : Prop := match y with
  | some ys => Adp k bytes et x ys H K
  | none => False
def Adq (k : Nat) (x : TV) (y : Option (List TV)) (H : List Ob) (K : TV → List Ob → Prop) [Tg K] : Prop := match y with
  | some ys => TC k x ys H K
  | none => False
def Ak5 (et : TypeId) (x y : TV) (H : List Ob) (K : TV → List Ob → Prop) [Tg K] : Prop := match y with
  | .val (.string s) => Adp 1 1 et x ((bl s).map by8) H K
  | _ => False
def Aev (x y : TV) (H : List Ob) (K : TV → List Ob → Prop) [Tg K] : Prop := match y with
  | .val (.string s) => TC 1 x ((bl s).map by8) H K
  | _ => False
def Aj1 (P : Program) (f : FuncId) (x : Option (Nat × Nat × List UInt8)) (H : List Ob) (K : TV → List Ob → Prop) [Tg K] : Prop := Arf P f ∧ (match x with
  | some (j, v, l) => l.length ≤ 9223372036854775807 ∧ K (.val (.string (str l))) (H.set j (.gone v))
  | none => False)
def AqY (H : List Ob) (x : TV) (K : TV → List Ob → Prop) [Tg K] : Prop := match x with
  | .val (.string s) => (bl s).length ≤ 9223372036854775807 ∧ K (.os 1 H.length 0 [] 0 (bl s).length (bl s).length) (H ++ [.obj 0 (.arr (bl s).length 1 ((bl s).map by8))])
  | _ => False
def Ajd (k bytes : Nat) (z x n : TV) (H : List Ob) (K : TV → List Ob → Prop) [Tg K] : Prop := match x, n with
  | .val (.slice none 0 0), .val (.int .i64 j) => (0 ≤ j ∧ (bytes : Int) * j ≤ 140737488355328 ∧ j ≤ 9223372036854775807) ∧ K (.os k H.length 0 [] 0 j.toNat j.toNat) (H ++ [.obj 0 (.arr j.toNat k (List.replicate j.toNat z))])
  | _, _ => False
def Adw (H : List Ob) (K : TV → List Ob → Prop) [Tg K] : Prop := K (.val (.bool true)) H ∧ K (.val (.bool false)) H
def AlM (neg : Bool) (x : TV) (H : List Ob) (K : TV → List Ob → Prop) [Tg K] : Prop := match x with
  | .val (.slice a _ _) => K (.val (.bool (xor neg a.isNone))) H
  | .sl _ cs => (cs = [] → K (.val (.bool true)) H ∧ K (.val (.bool false)) H) ∧ (cs ≠ [] → K (.val (.bool neg)) H)
  | .os _ _ _ _ _ n _ => (n = 0 → K (.val (.bool true)) H ∧ K (.val (.bool false)) H) ∧ (n ≠ 0 → K (.val (.bool neg)) H)
  | _ => False
def Aaw (P : Program) (x : TV) (args : List TV) (H : List Ob) (K : TV → List Ob → Prop) [Tg K] : Prop := match x with
  | .fn (.func f) first caps => Tj P f = true ∧ Aq P f (first ++ args ++ caps) H K
  | .val (.func (.func f) xs ys) => (xs.isEmpty && ys.isEmpty) = true ∧ Tj P f = true ∧ Aq P f args H K
  | .yl id ver => Zg P id ver args H K
  | _ => False
def ApZ (P : Program) (nm : String) (x : TV) (args : List TV) (H : List Ob) (K : TV → List Ob → Prop) [Tg K] : Prop := Arb P nm H x fun f r => Aq P f (r :: args) H K
def Aoi (P : Program) (q : Option (FuncId × Option (Bool × Nat))) (r : TV) (args : List TV) (H : List Ob) (K : TV → List Ob → Prop) [Tg K] : Prop := match q with
 | some (f, none) => Tj P f = true ∧ Aq P f (r :: args) H K
 | some (f, some (ag, sz)) => Tj P f = true ∧ ldT H ag sz r fun y => Aq P f (y :: args) H K
 | none => False
def Gd (q : Option Bool) (b : Bool) (A B : Prop) [Tg A] [Tg B] : Prop := match q with
 | some t => if t = b then A else B
 | none => B
def evs (e : Env) (xs : List Opd) : List TV := xs.map (·.ev e)
theorem Ani : evs e [] = [] := Aa rfl
theorem AkO {x : Opd} {xs : List Opd} : evs e (x :: xs) = x.ev e :: evs e xs := Aa rfl
def Px (xs : List TV) : Prop := ∀ x ∈ xs, BU x = false
theorem AgG : Px [] = True := by simp [Px]
theorem AfF {x : TV} {xs : List TV} : Px (x :: xs) = (BU x = false ∧ Px xs) := by simp [Px]
theorem MH {args : List Opd} : (∀ x ∈ args, BU (x.ev e) = false) = Px (evs e args) := by simp [Px, evs]

section
variable {c c' a a' b b' x x' y y' : TV} {K : TV → Prop} {KK : TV → List Ob → Prop} {lo lo' hi hi' : Option TV} {ox ox' : Option (List TV)} {q q' q2 q2' : Option Bool} {xs xs' : List TV} {A B : Prop} {H' : List Ob}
@[congr] theorem ArU (h1 : c = c') (h2 : a = a') (h3 : b = b') : Ah8 c a b K = Ah8 c' a' b' K := by rw [h1, h2, h3]
@[congr] theorem A2L {t : TypeId} {op : BinOp} (h1 : x = x') (h2 : y = y') : AqW t op x y K = AqW t op x' y' K := by rw [h1, h2]
@[congr] theorem A3h {op : UnOp} (h1 : x = x') : Pun op x K = Pun op x' K := by rw [h1]
@[congr] theorem Asd {k : IntKind} (h1 : x = x') : Akb k x K = Akb k x' K := by rw [h1]
@[congr] theorem A2S (h1 : x = x') : Arc x K = Arc x' K := by rw [h1]
@[congr] theorem A2K (h1 : ox = ox') : Aq6 ox K = Aq6 ox' K := by rw [h1]
@[congr] theorem ArG {ag : Bool} {sz : Nat} (h1 : x = x') (h2 : H = H') : AdB H ag sz x K = AdB H' ag sz x' K := by rw [h1, h2]
@[congr] theorem ApE {i o : Nat} (h1 : x = x') : XD i o x K = XD i o x' K := by rw [h1]
@[congr] theorem Aq1 {ag : Bool} {sz i o : Nat} (h1 : x = x') : AcJ ag sz i o x K = AcJ ag sz i o x' K := by rw [h1]
@[congr] theorem Arv {k : Nat} (h1 : x = x') (h2 : y = y') : AfB k x y K = AfB k x' y' K := by rw [h1, h2]
@[congr] theorem Aq8 {n k : Nat} (h1 : x = x') (h2 : y = y') : AaI n k x y K = AaI n k x' y' K := by rw [h1, h2]
@[congr] theorem A2T {ag : Bool} {n k : Nat} (h1 : x = x') (h2 : y = y') : Aop ag n k x y K = Aop ag n k x' y' K := by rw [h1, h2]
@[congr] theorem A1X (h1 : x = x') (h2 : y = y') : Aih x y K = Aih x' y' K := by rw [h1, h2]
@[congr] theorem A2I {i : Nat} (h1 : x = x') : AoT i x K = AoT i x' K := by rw [h1]
@[congr] theorem Ard (h1 : x = x') : Akp x K = Akp x' K := by rw [h1]
@[congr] theorem ArN (h1 : x = x') : Ae3 x K = Ae3 x' K := by rw [h1]
@[congr] theorem A2G {n m : Nat} {K : Nat → Nat → Prop} {n' m' : Nat} (h1 : lo = lo') (h2 : hi = hi') (h3 : n = n') (h4 : m = m') : Abk lo hi n m K = Abk lo' hi' n' m' K := by rw [h1, h2, h3, h4]
@[congr] theorem A20 (h1 : x = x') (h2 : lo = lo') (h3 : hi = hi') : Aq3 x lo hi K = Aq3 x' lo' hi' K := by rw [h1, h2, h3]
@[congr] theorem A21 {k : Nat} (h1 : x = x') (h2 : lo = lo') (h3 : hi = hi') : Aod k x lo hi K = Aod k x' lo' hi' K := by rw [h1, h2, h3]
@[congr] theorem A3c {n k : Nat} (h0 : H = H') (h1 : x = x') (h2 : lo = lo') (h3 : hi = hi') : Aoa H n k x lo hi K = Aoa H' n k x' lo' hi' K := by rw [h0, h1, h2, h3]
@[congr] theorem AqT {t : TypeId} (h1 : x = x') : Aec t x K = Aec t x' K := by rw [h1]
@[congr] theorem A2U {f : Fn} {ys ys' : List TV} (h1 : xs = xs') (h2 : ys = ys') : Apz f xs ys K = Apz f xs' ys' K := by rw [h1, h2]
@[congr] theorem Ar6 (h1 : x = x') : Acy x K = Acy x' K := by rw [h1]
@[congr] theorem A2Q (h1 : x = x') (h2 : y = y') : AqQ x y K = AqQ x' y' K := by rw [h1, h2]
@[congr] theorem A26 (h1 : x = x') (h2 : y = y') : AqX x y K = AqX x' y' K := by rw [h1, h2]
@[congr] theorem A2R {g : GOp} {xs xs' : List TV} (h1 : H = H') (h2 : xs = xs') : Z4 g H xs K = Z4 g H' xs' K := by rw [h1, h2]
@[congr] theorem A22 {n : Bool} (h1 : x = x') (h2 : y = y') : Aoq n x y K = Aoq n x' y' K := by rw [h1, h2]
@[congr] theorem A2O {n : Bool} (h1 : q = q') (h2 : q2 = q2') : Aoy n q q2 K = Aoy n q' q2' K := by rw [h1, h2]
@[congr] theorem AqZ {sz : Nat} (h0 : H = H') (h1 : x = x') (h2 : y = y') : AcW H sz x y KK = AcW H' sz x' y' KK := by rw [h0, h1, h2]
@[congr] theorem A3a {k n : Nat} {z : TV} (h0 : H = H') (h1 : x = x') (h2 : y = y') : AqV H k n z x y KK = AqV H' k n z x' y' KK := by rw [h0, h1, h2]
@[congr] theorem A2W {k n : Nat} {et : TypeId} (h0 : H = H') (h1 : x = x') (h2 : ox = ox') : Anu k n et x ox H KK = Anu k n et x' ox' H' KK := by rw [h0, h1, h2]
@[congr] theorem Aro {k : Nat} (h0 : H = H') (h1 : x = x') (h2 : ox = ox') : Adq k x ox H KK = Adq k x' ox' H' KK := by rw [h0, h1, h2]
@[congr] theorem A2D {et : TypeId} (h0 : H = H') (h1 : x = x') (h2 : y = y') : Ak5 et x y H KK = Ak5 et x' y' H' KK := by rw [h0, h1, h2]
@[congr] theorem Aq4 (h0 : H = H') (h1 : x = x') (h2 : y = y') : Aev x y H KK = Aev x' y' H' KK := by rw [h0, h1, h2]
@[congr] theorem ArB {P : Program} {f : FuncId} {r r' : Option (Nat × Nat × List UInt8)} (h0 : H = H') (h1 : r = r') : Aj1 P f r H KK = Aj1 P f r' H' KK := by rw [h0, h1]
@[congr] theorem AsC {k n : Nat} {z : TV} (h0 : H = H') (h1 : x = x') (h2 : y = y') : Ajd k n z x y H KK = Ajd k n z x' y' H' KK := by rw [h0, h1, h2]
@[congr] theorem A3b {n : Bool} (h0 : H = H') (h1 : x = x') : AlM n x H KK = AlM n x' H' KK := by rw [h0, h1]
@[congr] theorem ArK (h0 : H = H') : Adw H KK = Adw H' KK := by rw [h0]
@[congr] theorem A2X (h0 : H = H') (h1 : x = x') : AqY H x KK = AqY H' x' KK := by rw [h0, h1]
@[congr] theorem Ara (h0 : H = H') (h1 : x = x') (h2 : xs = xs') : Aaw P x xs H KK = Aaw P x' xs' H' KK := by rw [h0, h1, h2]
@[congr] theorem A2M {P : Program} {nm : String} (h0 : H = H') (h1 : x = x') (h2 : xs = xs') : ApZ P nm x xs H KK = ApZ P nm x' xs' H' KK := by rw [h0, h1, h2]
@[congr] theorem A2J {P : Program} {g g' : Option (FuncId × Option (Bool × Nat))} (h : g = g') (h0 : H = H') (h1 : x = x') (h2 : xs = xs') : Aoi P g x xs H KK = Aoi P g' x' xs' H' KK := by rw [h, h0, h1, h2]
@[congr] theorem A3H {b : Bool} (h1 : q = q') : Gd q b A B = Gd q' b A B := by rw [h1]
end

section
variable {K : TV → Prop} {KK : TV → List Ob → Prop} {x y i a b c : Opd} {lo hi : Option Opd}
theorem Arn : pop (.mov x) e H K = A8 (x.ev e) K := Aa rfl
theorem Aqv : pop (.pick c a b) e H K = Ah8 (c.ev e) (a.ev e) (b.ev e) K := Aa rfl
theorem A2v {t : TypeId} {op : BinOp} : pop (.bin t op x y) e H K = AqW t op (x.ev e) (y.ev e) K := Aa rfl
theorem A3k {op : UnOp} : pop (.un op x) e H K = Pun op (x.ev e) K := Aa rfl
theorem ApB {k : IntKind} : pop (.conv k x) e H K = Akb k (x.ev e) K := Aa rfl
theorem Asy : pop (.s2s x) e H K = Arc (x.ev e) K := Aa rfl
theorem A1Z : pop (.b2s x) e H K = Aq6 (BQ H 1 (x.ev e)) K := Aa rfl
theorem Aos {ag : Bool} {sz : Nat} : pop (.load ag sz x) e H K = AdB H ag sz (x.ev e) K := Aa rfl
theorem Ak0 {n o : Nat} : pop (.fieldA n o x) e H K = XD n o (x.ev e) K := Aa rfl
theorem AmQ {ag : Bool} {sz n o : Nat} : pop (.field ag sz n o x) e H K = AcJ ag sz n o (x.ev e) K := Aa rfl
theorem AoD {k : Nat} : pop (.idxA k x i) e H K = AfB k (x.ev e) (i.ev e) K := Aa rfl
theorem AnV {n k : Nat} : pop (.idxAA n k x i) e H K = AaI n k (x.ev e) (i.ev e) K := Aa rfl
theorem A2u {ag : Bool} {n k : Nat} : pop (.idx ag n k x i) e H K = Aop ag n k (x.ev e) (i.ev e) K := Aa rfl
theorem AoQ : pop (.idxS x i) e H K = Aih (x.ev e) (i.ev e) K := Aa rfl
theorem A18 {n : Nat} : pop (.ext n x) e H K = AoT n (x.ev e) K := Aa rfl
theorem Aph : pop (.lenS x) e H K = Akp (x.ev e) K := Aa rfl
theorem ApX : pop (.lenV x) e H K = Ae3 (x.ev e) K := Aa rfl
theorem Aru : pop (.slS x lo hi) e H K = Aq3 (x.ev e) (evO e lo) (evO e hi) K := by
 show (match x.ev e with | .val (.string s) => bnd e lo hi (bl s).length (bl s).length fun l h => K (.val (.string (str (((bl s).drop l).take (h - l))))) | _ => False) = _
 simp only [AgE]; rfl
theorem ArQ {k : Nat} : pop (.slV k x lo hi) e H K = Aod k (x.ev e) (evO e lo) (evO e hi) K := by
 rw [A2i]; simp only [AgE]; rfl
theorem A2F {n k : Nat} : pop (.slA n k x lo hi) e H K = Aoa H n k (x.ev e) (evO e lo) (evO e hi) K := by
 rw [Asg]; simp only [AgE]; rfl
theorem An5 {t : TypeId} : pop (.iface t x) e H K = Aec t (x.ev e) K := Aa rfl
theorem A2e {f : Fn} {xs ys : List Opd} : pop (.mkf f xs ys) e H K = Apz f (evs e xs) (evs e ys) K := by
 rw [A2b]; unfold Apz evs; rw [← List.map_append]
 refine congrArg (· ∧ _) (propext ⟨fun h y hy => ?_, fun h y hy => h _ (List.mem_map.2 ⟨y, hy, rfl⟩)⟩)
 obtain ⟨z, hz, rfl⟩ := List.mem_map.1 hy; exact h z hz
theorem AoE : pop (.nilc x) e H K = Acy (x.ev e) K := Aa rfl
theorem ArV : pop (.min x y) e H K = AqQ (x.ev e) (y.ev e) K := Aa rfl
theorem A2p : pop (.max x y) e H K = AqX (x.ev e) (y.ev e) K := Aa rfl
theorem AsD {g : GOp} {xs : List Opd} : pop (.gen g xs) e H K = Z4 g H (evs e xs) K := Aa rfl
theorem Ari {n : Bool} : pop (.eqB x y n) e H K = Aoq n (x.ev e) (y.ev e) K := Aa rfl
theorem A1Y {kd : Nat} {n : Bool} : pop (.eqN kd x y n) e H K = Aoy n (DF kd (x.ev e)) (DF kd (y.ev e)) K := Aa rfl
theorem Amw {zs : List TV} {szs : List Nat} {ps : List (Nat × Opd)} : pop (.build zs szs ps) e H K = Dx (DJ e szs ps) (A8 (TV.agg (Eo e zs ps)) K) := Aa rfl
theorem AiG {n k : Nat} {zs : List TV} {ps : List (Nat × Opd)} : pop (.buildA n k zs ps) e H K = Dx (DJ e (List.replicate n k) ps) (Dx (Bg e ps) (A8 (TV.arr n k (Eo e zs ps)) K)) := Aa rfl
theorem A12 {k n : Nat} {z : TV} {ps : List (Nat × Opd)} : pop (.bsl k n z ps) e H K = Dx (DJ e (List.replicate n k) ps) (Dx (Bg e ps ∧ n ≤ 1000) (A8 (TV.sl k (Eo e (List.replicate n z) ps)) K)) := by
 show ((_ ∧ _ ∧ _) ∧ _) = _
 simp only [Dx, A8, and_assoc]
theorem Anp {z : TV} : sop P (.alloc z) e H KK = A8 (H.length) fun n => A8 (H ++ [.obj 0 z]) fun H' => KK (.op n 0 []) H' := Aa rfl
theorem AiN {z : TV} {t : TypeId} : sop P (.allocT z t) e H KK = A8 (H.length) fun n => A8 (AB z) fun m => A8 (H ++ [.obj 0 z, .fact n 0 t m]) fun H' => KK (.op n 0 []) H' := Aa rfl
theorem AqN {t : TypeId} : sop P (.boxT x t) e H KK = A8 (x.ev e) fun v => Dx (lays v = true) (A8 (H.length) fun n => A8 (AB v) fun m => A8 (H ++ [.obj 0 v, .fact n 0 t m]) fun H' => KK (.op n 0 []) H') := Aa rfl
theorem Ap6 {f : FuncId} : sop P (.bstr f x) e H KK = Aj1 P f (Afg H (x.ev e)) H KK := Aa rfl
def AjI (x : TV) (H : List Ob) (K : TV → List Ob → Prop) [Tg K] : Prop := match x with
 | .val (.string s) => K (.op H.length 0 []) (H ++ [.sit (bl s) 0])
 | _ => False
@[congr] theorem Arj {x x' : TV} {H' : List Ob} (h1 : x = x') (h2 : H = H') : AjI x H KK = AjI x' H' KK := by rw [h1, h2]
theorem Api : sop P (.rngS x) e H KK = AjI (x.ev e) H KK := Aa rfl
theorem Alc {s : ByteArray} : AjI (.val (.string s)) H KK = A8 H.length fun n => A8 (H ++ [.sit (bl s) 0]) fun H' => KK (.op n 0 []) H' := Aa rfl
def AgQ : Option Ob → Option (List UInt8 × Nat)
 | some (.sit s pos) => some (s, pos)
 | _ => none
theorem Ak6 {s : List UInt8} {pos : Nat} : AgQ (some (.sit s pos)) = some (s, pos) := Aa rfl
def Aie (x : TV) (H : List Ob) (K : TV → List Ob → Prop) [Tg K] : Prop := match x with
 | .op id 0 [] => (match H[id]? with
  | some (.sit s pos) => if pos < s.length then K (.tup [.val (.bool true), .val (.int .i64 (pos : Int)), .val (.int .i32 ((Utf8.decode (str s) pos).1 : Int))]) (H.set id (.sit s (pos + (Utf8.decode (str s) pos).2))) else K (.tup [.val (.bool false)]) H
  | _ => False)
 | _ => False
@[congr] theorem ArZ {x x' : TV} {H' : List Ob} (h1 : x = x') (h2 : H = H') : Aie x H KK = Aie x' H' KK := by rw [h1, h2]
theorem AoZ : sop P (.nxtS x) e H KK = Aie (x.ev e) H KK := Aa rfl
theorem Akt {id : Nat} : Aie (.op id 0 []) H KK = Be (AgQ H[id]?) fun p => vif (decide (p.2 < p.1.length))
  (A8 (H.set id (.sit p.1 (p.2 + (Utf8.decode (str p.1) p.2).2))) fun H' => KK (.tup [.val (.bool true), .val (.int .i64 (p.2 : Int)), .val (.int .i32 ((Utf8.decode (str p.1) p.2).1 : Int))]) H') (KK (.tup [.val (.bool false)]) H) := by
 unfold Aie
 cases h : H[id]? with
 | none => simp [AgQ, Be, h]
 | some o =>
  cases o with
  | sit s pos => simp only [h, AgQ, Be, A8]; by_cases hp : pos < s.length <;> simp [vif, hp]
  | _ => simp [AgQ, Be, h]
theorem Arm : sop P (.box x) e H KK = A8 (x.ev e) fun v => Dx (lays v = true) (A8 (H.length) fun n => A8 (H ++ [.obj 0 v]) fun H' => KK (.op n 0 []) H') := Aa rfl
theorem AjK {k n : Nat} {z : TV} {ps : List (Nat × Opd)} : sop P (.bslice k n z ps) e H KK = Dx (DJ e (List.replicate n k) ps) (Dx (Bg e ps ∧ n ≤ 1000) (A8 H.length fun m => A8 (H ++ [.obj 0 (.arr n k (Eo e (List.replicate n z) ps))]) fun H' => KK (.os k m 0 [] 0 n n) H')) := by
 rw [Aj3]; simp only [Dx, A8, and_assoc]
/-- Maps. -/
def YK (kk : MK) : Option Ob → Option (List (List UInt8 × TV))
 | some (.mpo kk' es) => if kk' = kk then some es else none
 | _ => none
def PD (kk : MK) : Option Ob → Option (List (List UInt8 × TV))
 | some (.mpo kk' es) => if kk' = kk then some es else none
 | some (.mpd kk' zs _) => if kk' = kk then some (zs.map (·.2)) else none
 | _ => none
theorem AiM {kk : MK} {es : List (List UInt8 × TV)} : PD kk (some (.mpo kk es)) = some es := by simp [PD]
theorem Amu {kk : MK} {zs : List (Nat × List UInt8 × TV)} {cl : Nat} : PD kk (some (.mpd kk zs cl)) = some (zs.map (·.2)) := by simp [PD]
def Ad5 : Option Ob → Option (List (List UInt8 × TV))
 | some (.mpo _ es) => some es
 | some (.mpd _ zs _) => some (zs.map (·.2))
 | _ => none
theorem AiE {kk : MK} {es : List (List UInt8 × TV)} : Ad5 (some (.mpo kk es)) = some es := by simp [Ad5]
theorem Al9 {kk : MK} {zs : List (Nat × List UInt8 × TV)} {cl : Nat} : Ad5 (some (.mpd kk zs cl)) = some (zs.map (·.2)) := by simp [Ad5]
theorem Ahv {kk : MK} {es : List (List UInt8 × TV)} : stO (some (.mpo kk es)) = some (kk, IP 0 es, es.length) := Aa rfl
theorem Ahj {kk : MK} {zs : List (Nat × List UInt8 × TV)} {cl : Nat} : stO (some (.mpd kk zs cl)) = some (kk, zs, cl) := Aa rfl
/-- A loop over a map begins; its next round. -/
def Agc (x : TV) (H : List Ob) (K : TV → List Ob → Prop) [Tg K] : Prop := match x with
 | .mp id 0 => (match stO H[id]? with
  | some (_, _, cl) => K (.op H.length 0 []) (H ++ [.mit id [] cl])
  | none => False)
 | _ => False
@[congr] theorem A19 {x x' : TV} {H' : List Ob} (h1 : x = x') (h2 : H = H') : Agc x H KK = Agc x' H' KK := by rw [h1, h2]
theorem ApK : sop P (.rngM x) e H KK = Agc (x.ev e) H KK := Aa rfl
theorem AjF {id : Nat} : Agc (.mp id 0) H KK = Be (stO H[id]?) fun p => A8 H.length fun n => A8 (H ++ [.mit id [] p.2.2]) fun H' => KK (.op n 0 []) H' := by
 unfold Agc
 cases h : stO H[id]? with
 | none => simp [Be, h]
 | some o => obtain ⟨a, b, c⟩ := o; simp [Be, A8, h]
def AaV : Option Ob → Option (Nat × List Nat × Nat)
 | some (.mit m sn cl) => some (m, sn, cl)
 | _ => none
theorem AiT {m cl : Nat} {sn : List Nat} : AaV (some (.mit m sn cl)) = some (m, sn, cl) := Aa rfl
def Aib (x : TV) (H : List Ob) (K : TV → List Ob → Prop) [Tg K] : Prop := match x with
 | .op id 0 [] => (match H[id]? with
  | some (.mit m sn cl) => (match stO H[m]? with
   | some (kk, zs, cl') => (cl' = cl ∧ ∀ z ∈ zs, z.1 < cl) ∧ (∀ z ∈ zs, z.1 ∉ sn → K (.tup [.val (.bool true), kTV kk z.2.1, z.2.2]) (H.set id (.mit m (sn ++ [z.1]) cl))) ∧ ((∀ z ∈ zs, z.1 ∈ sn) → K (.tup [.val (.bool false)]) H)
   | none => False)
  | _ => False)
 | _ => False
@[congr] theorem A2y {x x' : TV} {H' : List Ob} (h1 : x = x') (h2 : H = H') : Aib x H KK = Aib x' H' KK := by rw [h1, h2]
theorem Apv : sop P (.nxtM x) e H KK = Aib (x.ev e) H KK := Aa rfl
/-- The next entry, whichever: any one that was not yet seen; or none, if all were. -/
def AoX (id m : Nat) (sn : List Nat) (cl : Nat) (kk : MK) (zs : List (Nat × List UInt8 × TV)) (cl' : Nat) (H : List Ob) (K : TV → List Ob → Prop) [Tg K] : Prop :=
 (cl' = cl ∧ ∀ z ∈ zs, z.1 < cl) ∧ (∀ z ∈ zs, z.1 ∉ sn → K (.tup [.val (.bool true), kTV kk z.2.1, z.2.2]) (H.set id (.mit m (sn ++ [z.1]) cl))) ∧ ((∀ z ∈ zs, z.1 ∈ sn) → K (.tup [.val (.bool false)]) H)
@[congr] theorem A27 {id m : Nat} {sn sn' : List Nat} {cl c2 : Nat} {kk : MK} {zs zs' : List (Nat × List UInt8 × TV)} {cl' c2' : Nat} {H' : List Ob} (h1 : sn = sn') (h2 : cl = c2) (h3 : zs = zs') (h4 : cl' = c2') (h5 : H = H') : AoX id m sn cl kk zs cl' H KK = AoX id m sn' c2 kk zs' c2' H' KK := by rw [h1, h2, h3, h4, h5]
theorem Alk {id : Nat} : Aib (.op id 0 []) H KK = Be (AaV H[id]?) fun p => Be (stO H[p.1]?) fun q => AoX id p.1 p.2.1 p.2.2 q.1 q.2.1 q.2.2 H KK := by
 unfold Aib
 cases h : H[id]? with
 | none => simp [AaV, Be, h]
 | some o =>
  cases o with
  | mit m sn cl =>
   simp only [h, AaV, Be]
   cases h2 : stO H[m]? with
   | none => simp
   | some q => obtain ⟨a, b, c⟩ := q; simp only [AoX]
  | _ => simp [AaV, Be, h]
theorem X9 {id m : Nat} {sn : List Nat} {cl : Nat} {kk : MK} {zs : List (Nat × List UInt8 × TV)} {cl' : Nat} (h0 : cl' = cl) (h1 : ∀ z ∈ zs, z.1 < cl) (h2 : ∀ z ∈ zs, z.1 ∉ sn → KK (.tup [.val (.bool true), kTV kk z.2.1, z.2.2]) (H.set id (.mit m (sn ++ [z.1]) cl))) (h3 : (∀ z ∈ zs, z.1 ∈ sn) → KK (.tup [.val (.bool false)]) H) : AoX id m sn cl kk zs cl' H KK := ⟨⟨h0, h1⟩, h2, h3⟩
theorem Ac4 : ∀ {es : List (List UInt8 × TV)} {i : Nat}, ∀ z ∈ IP i es, i ≤ z.1 ∧ z.1 < i + es.length
 | [], i, z, h => by simp [IP] at h
 | e :: es, i, z, h => by
  rw [IP] at h
  rcases List.mem_cons.1 h with rfl | h
  ·simp
  ·have := Ac4 z h; rw [List.length_cons]; omega
/-- The entry last taken. -/
def AgN (p : Nat × List Nat × Nat) (q : MK × List (Nat × List UInt8 × TV) × Nat) : Option TV := match p.2.1.getLast? with
 | some s => if q.2.2 = p.2.2 then (match q.2.1.find? (·.1 == s) with
  | some z => some (.tup [kTV q.1 z.2.1, z.2.2])
  | none => none) else none
 | none => none
theorem Ae6 {zs : List (Nat × List UInt8 × TV)} (h : (zs.map (·.1)).Nodup) {z : Nat × List UInt8 × TV} (hz : z ∈ zs) : zs.find? (·.1 == z.1) = some z := by
 induction zs with
 | nil => cases hz
 | cons y zs ih =>
  rw [List.map_cons, List.nodup_cons] at h
  rcases List.mem_cons.1 hz with rfl | hz
  ·simp
  ·have hne : y.1 ≠ z.1 := fun e => h.1 (by rw [e]; exact List.mem_map.2 ⟨z, hz, rfl⟩)
   rw [List.find?_cons_of_neg (by simpa using hne)]
   exact ih h.2 hz
theorem AfJ {m cl : Nat} {sn : List Nat} {kk : MK} {zs : List (Nat × List UInt8 × TV)} (h : (zs.map (·.1)).Nodup) {z : Nat × List UInt8 × TV} (hz : z ∈ zs) : AgN (m, sn ++ [z.1], cl) (kk, zs, cl) = some (.tup [kTV kk z.2.1, z.2.2]) := by
 simp only [AgN, List.getLast?_append, List.getLast?_singleton, Option.or_some, Option.some_or, Ae6 h hz, if_true]
/-- A map whose entry goes. -/
def stIn (kk : MK) (o : Option Ob) : Option (List (Nat × List UInt8 × TV) × Nat) := match stO o with
 | some (kk', zs, cl) => if kk' = kk then some (zs, cl) else none
 | none => none
theorem Ajt {kk : MK} {es : List (List UInt8 × TV)} : stIn kk (some (.mpo kk es)) = some (IP 0 es, es.length) := by simp [stIn, stO]
theorem AiV {kk : MK} {zs : List (Nat × List UInt8 × TV)} {cl : Nat} : stIn kk (some (.mpd kk zs cl)) = some (zs, cl) := by simp [stIn, stO]
def Ahw (kk : MK) (m k : TV) (H : List Ob) (K : TV → List Ob → Prop) [Tg K] : Prop := match m, BC kk k with
 | .mp id 0, some kb => (match stO H[id]? with
  | some (kk', zs, cl) => kk' = kk ∧ K .any (H.set id (.mpd kk (zs.eraseIdx (SC kb (zs.map (·.2)))) cl))
  | none => False)
 | _, _ => False
@[congr] theorem A2f {kk : MK} {H' : List Ob} {m m' k k' : TV} (h1 : m = m') (h2 : k = k') (h4 : H = H') : Ahw kk m k H KK = Ahw kk m' k' H' KK := by rw [h1, h2, h4]
theorem AoY {kk : MK} {m k : Opd} : sop P (.delM kk m k) e H KK = Ahw kk (m.ev e) (k.ev e) H KK := Aa rfl
theorem Ajv {kk : MK} {id : Nat} {kx : TV} : Ahw kk (.mp id 0) kx H KK = Be (stIn kk H[id]?) fun p => Be (BC kk kx) fun kb => A8 (p.1.eraseIdx (SC kb (p.1.map (·.2)))) fun zs => A8 (H.set id (.mpd kk zs p.2)) fun H' => KK .any H' := by
 unfold Ahw stIn
 cases h : stO H[id]? with
 | none => cases BC kk kx <;> simp [h, Be]
 | some q =>
  obtain ⟨kk', zs, cl⟩ := q
  by_cases hk : kk' = kk
  ·subst hk; cases BC kk' kx <;> simp [h, Be, A8]
  ·cases BC kk kx <;> simp [h, Be, hk]
/-- A row cleared. -/
def Agt (k : Nat) (z x : TV) (H : List Ob) (K : TV → List Ob → Prop) [Tg K] : Prop := match x with
 | .os k' id ver p off n cp => TC k (.os k' id ver p off n cp) (List.replicate n z) H fun _ H' => K .any H'
 | .val (.slice none 0 0) => K .any H
 | _ => False
@[congr] theorem A2x {k : Nat} {z x x' : TV} {H' : List Ob} (h1 : x = x') (h2 : H = H') : Agt k z x H KK = Agt k z x' H' KK := by rw [h1, h2]
theorem ApO {k : Nat} {z : TV} : sop P (.clrS k z x) e H KK = Agt k z (x.ev e) H KK := Aa rfl
theorem Ahz {k : Nat} {z : TV} : Agt k z (.val (.slice none 0 0)) H KK = KK .any H := Aa rfl
theorem AjV {k id ver off n cp : Nat} {p : List (Nat × Nat)} {z : TV} : Agt k z (.os k id ver p off n cp) H KK = A8 (List.replicate n z) fun ys => Adq k (.os k id ver p off n cp) (some ys) H fun _ H' => KK .any H' := Aa rfl
theorem AkP {kk : MK} {es : List (List UInt8 × TV)} : YK kk (some (.mpo kk es)) = some es := by simp [YK]
theorem Ao0 {l : List UInt8} : BC .str (.val (.string (str l))) = some l := by simp [BC, bl, str]
theorem Aqf {n : Nat} {l : List UInt8} : BC (.arr n) (.arr n 1 (l.map by8)) = some l := by
 unfold BC; simp only [ZI, U5, and_self, if_true]
theorem Amd {z : TV} {r : Option TV} : YP z false r = r.getD z := by simp [YP]
theorem AlS {z : TV} {r : Option TV} : YP z true r = .tup [r.getD z, .val (.bool r.isSome)] := by simp [YP]
def Aoh (x : TV) (A : Prop) [Tg A] : Prop := match x with
 | .val (.int _ _) => A
 | _ => False
@[congr] theorem A28 {x x' : TV} {A : Prop} (h : x = x') : Aoh x A = Aoh x' A := by rw [h]
theorem AnR {q : IntKind} {n : Int} {A : Prop} : Aoh (.val (.int q n)) A = A := by simp [Aoh]
theorem Ao5 {kk : MK} : sop P (.mkm kk none) e H KK = A8 H.length fun n => A8 (H ++ [.mpo kk []]) fun H' => KK (.mp n 0) H' := by simp [sop, A8]
theorem AoH {kk : MK} : sop P (.mkm kk (some x)) e H KK = Aoh (x.ev e) (A8 H.length fun n => A8 (H ++ [.mpo kk []]) fun H' => KK (.mp n 0) H') := by
 simp only [sop, A8, Aoh]
 cases x.ev e with
 | val v => cases v <;> simp
 | _ => simp
def Aif (kk : MK) (m k v : TV) (H : List Ob) (K : TV → List Ob → Prop) [Tg K] : Prop := match m, BC kk k with
 | .mp id 0, some kb => (match H[id]? with
  | some (.mpo kk' es) => (kk' = kk ∧ lays v = true) ∧ K .any (H.set id (.mpo kk (EZ kb v es)))
  | _ => False)
 | _, _ => False
@[congr] theorem Arh {kk : MK} {H' : List Ob} {m m' k k' v v' : TV} (h1 : m = m') (h2 : k = k') (h3 : v = v') (h4 : H = H') : Aif kk m k v H KK = Aif kk m' k' v' H' KK := by rw [h1, h2, h3, h4]
theorem AoO {kk : MK} {m k : Opd} : sop P (.mupd kk m k x) e H KK = Aif kk (m.ev e) (k.ev e) (x.ev e) H KK := Aa rfl
def AhW (kk : MK) (z m k : TV) (H : List Ob) (K : TV → List Ob → Prop) [Tg K] : Prop := match m, BC kk k with
 | .mp id 0, some kb => (match H[id]? with
  | some (.mpo kk' es) => kk' = kk ∧ K (.tup [(Fb kb es).getD z, .val (.int .i64 (SC kb es))]) (H.set id (.mpo kk (EZ kb ((Fb kb es).getD z) es)))
  | _ => False)
 | _, _ => False
@[congr] theorem AsK {kk : MK} {H' : List Ob} {z m m' k k' : TV} (h1 : m = m') (h2 : k = k') (h4 : H = H') : AhW kk z m k H KK = AhW kk z m' k' H' KK := by rw [h1, h2, h4]
theorem Apj {kk : MK} {z : TV} {m k : Opd} : sop P (.ment kk z m k) e H KK = AhW kk z (m.ev e) (k.ev e) H KK := Aa rfl
def AgW (m st v : TV) (H : List Ob) (K : TV → List Ob → Prop) [Tg K] : Prop := match m, st with
 | .mp id 0, .val (.int _ j) => (match H[id]? with
  | some (.mpo kk es) => (0 ≤ j ∧ lays v = true) ∧ (match es[j.toNat]? with
   | some (k, _) => K .any (H.set id (.mpo kk (es.set j.toNat (k, v))))
   | none => False)
  | _ => False)
 | _, _ => False
@[congr] theorem A11 {H' : List Ob} {m m' st st' v v' : TV} (h1 : m = m') (h2 : st = st') (h3 : v = v') (h4 : H = H') : AgW m st v H KK = AgW m' st' v' H' KK := by rw [h1, h2, h3, h4]
theorem Apo {m st : Opd} : sop P (.mest m st x) e H KK = AgW (m.ev e) (st.ev e) (x.ev e) H KK := Aa rfl
theorem AnQ {sz : Nat} : sop P (.store sz x y) e H KK = AcW H sz (x.ev e) (y.ev e) KK := Aa rfl
theorem A2s {k n : Nat} {z : TV} : sop P (.mks k n z x y) e H KK = AqV H k n z (x.ev e) (y.ev e) KK := Aa rfl
theorem ArI {k n : Nat} {et : TypeId} : sop P (.app k n et x y) e H KK = Anu k n et (x.ev e) (BQ H k (y.ev e)) H KK := Aa rfl
theorem Apw {et : TypeId} : sop P (.appS et x y) e H KK = Ak5 et (x.ev e) (y.ev e) H KK := Aa rfl
theorem AoG {k : Nat} : sop P (.copy k x y) e H KK = Adq k (x.ev e) (BQ H k (y.ev e)) H KK := Aa rfl
theorem Amt : sop P (.copyS x y) e H KK = Aev (x.ev e) (y.ev e) H KK := Aa rfl
theorem Ap8 {k n : Nat} {z : TV} : sop P (.appZ k n z x y) e H KK = Ajd k n z (x.ev e) (y.ev e) H KK := Aa rfl
theorem ArR {n : Bool} : sop P (.eqS x n) e H KK = AlM n (x.ev e) H KK := Aa rfl
theorem Ar8 : sop P (.s2b x) e H KK = AqY H (x.ev e) KK := Aa rfl
theorem ApN {f : FuncId} {args : List Opd} : sop P (.call f args) e H KK = A8 (evs e args) fun xs => Dx (Px xs) (VC P f xs H KK) := by
 rw [Apa, MH]; rfl
theorem AsA {nm : String} {args : List Opd} : sop P (.inv x nm args) e H KK = A8 (evs e args) fun xs => Dx (Px xs) (ApZ P nm (x.ev e) xs H KK) := by
 show ((∀ y ∈ args, BU (y.ev e) = false) ∧ _) = _
 rw [MH]; rfl
theorem AlP {args : List Opd} : sop P (.callv x args) e H KK = A8 (evs e args) fun xs => Dx (Px xs) (Aaw P (x.ev e) xs H KK) := by
 rw [AlT, MH]; rfl
end

section
variable {K : TV → Prop} {KK : TV → List Ob → Prop} {x y : TV} {cs ys : List TV} {n n' k k' : Nat} {id ver off cp : Nat} {p : List (Nat × Nat)} {j : Int} {q : IntKind} {lo hi : Option TV}
theorem AkV {t : Bool} : Ah8 (.val (.bool t)) x y K = vif t (K x) (K y) := by cases t <;> simp [Ah8, vif]
theorem Anv {t : TypeId} {op : BinOp} {u v : Value} : AqW t op (.val u) (.val v) K = Dx (AjP u v = true) (Be (H9 t op u v) fun r => A8 (TV.val r) K) := by
 show (_ ∧ _) = _; cases H9 t op u v <;> rfl
theorem Aps {op : UnOp} {u : Value} : Pun op (.val u) K = Be (unV op u) fun r => A8 (TV.val r) K := by
 unfold Pun; simp only; cases unV op u <;> rfl
theorem Alp {k : IntKind} : Akb k (.val (.int q j)) K = A8 (TV.val (.int k (k.wrap j))) K := Aa rfl
theorem AlW {s : ByteArray} : Arc (.val (.string s)) K = K (.val (.string s)) := Aa rfl
theorem AnL : Aq6 (some cs) K = Dx (∀ y ∈ cs, AfR y) (A8 (TV.val (.string (str (cs.map Y1)))) K) := Aa rfl
theorem AjG {ag : Bool} {sz : Nat} : AdB H ag sz (.fp y) K = Dx (AaH ag sz y) (K y) := Aa rfl
theorem AjH {ag : Bool} {sz : Nat} : AdB H ag sz (.op id ver p) K = Be (FK H[id]? ver) fun x => Be (Jo p x) fun y => Dx (AaH ag sz y) (K y) := by
 unfold AdB
 simp only
 cases h : H[id]? with
 | none => simp [FK, Be]
 | some o =>
  cases o with
  | gone v => simp [FK, Be]
  | ice v m y => simp [FK, Be]
  | fact i v t m => simp [FK, Be]
  | bld v t l => simp [FK, Be]
  | lp st pe fn N en ps ca cb => simp [FK, Be]
  | mpo kk es => simp [FK, Be]
  | mpd kk zs cl => simp [FK, Be]
  | mit m sn cl => simp [FK, Be]
  | sit s pos => simp [FK, Be]
  | obj v x =>
   by_cases hv : v = ver
   ·subst hv; simp only [FK, Be, Dx, if_true, true_and]; cases Jo p x <;> rfl
   ·simp [FK, Be, hv]
theorem Afa {i o : Nat} : XD i o (.op id ver p) K = A8 (p ++ [(i, o)]) fun p => K (.op id ver p) := Aa rfl
theorem Afw {i o : Nat} : XD i o (.fp (.agg cs)) K = Dx (BF (cs.take i) = o) (Be cs[i]? fun y => K (.fp y)) := by
 unfold XD; simp only; cases cs[i]? <;> rfl
theorem Ah3 {ag : Bool} {sz i o : Nat} : AcJ ag sz i o (.agg cs) K = Dx (BF (cs.take i) = o) (Be cs[i]? fun y => Dx (AaH ag sz y) (K y)) := by
 unfold AcJ; simp only; cases cs[i]? <;> rfl
theorem Ajg : AfB k (.sl k cs) (.val (.int q j)) K = Dx (0 ≤ j) (Be cs[j.toNat]? fun y => K (.fp y)) := by
 unfold AfB; simp only [true_and]; cases cs[j.toNat]? <;> rfl
theorem Akf : AfB k (.os k id ver p off n cp) (.val (.int q j)) K = Dx (0 ≤ j ∧ j < n) (A8 (off + j.toNat) fun m => A8 (p ++ [(m, m * k)]) fun p => K (.op id ver p)) := by
 show (k = k ∧ _) = _; simp [Dx, A8, and_assoc]
theorem Agd : AaI n k (.fp (.arr n k cs)) (.val (.int q j)) K = Dx (0 ≤ j) (Be cs[j.toNat]? fun y => K (.fp y)) := by
 unfold AaI; simp only [true_and]; cases cs[j.toNat]? <;> rfl
theorem Aid : AaI n k (.op id ver p) (.val (.int q j)) K = Dx (0 ≤ j ∧ j < n) (A8 j.toNat fun m => A8 (p ++ [(m, m * k)]) fun p => K (.op id ver p)) := by
 show (_ ∧ _) = _; simp [Dx, A8, and_assoc]
theorem AlQ {ag : Bool} : Aop ag n k (.arr n k cs) (.val (.int q j)) K = Dx (0 ≤ j) (Be cs[j.toNat]? fun y => Dx (AaH ag k y) (K y)) := by
 unfold Aop; simp only [true_and]; cases cs[j.toNat]? <;> rfl
theorem AjR {s : ByteArray} : Aih (.val (.string s)) (.val (.int q j)) K = Dx (0 ≤ j) (Be (bl s)[j.toNat]? fun b => K (by8 b)) := by
 unfold Aih; simp only; cases (bl s)[j.toNat]? <;> rfl
theorem AlV {i : Nat} : AoT i (.tup cs) K = Be cs[i]? K := by
 unfold AoT; simp only; cases cs[i]? <;> rfl
theorem AiU {s : ByteArray} : Akp (.val (.string s)) K = A8 (TV.val (.int .i64 (bl s).length)) K := Aa rfl
theorem Aj6 : Ae3 (.sl k cs) K = A8 (TV.val (.int .i64 cs.length)) K := Aa rfl
theorem Ajo : Ae3 (.os k id ver p off n cp) K = K (.val (.int .i64 n)) := Aa rfl
theorem Aii {ad : Option Addr} {c : Nat} : Ae3 (.val (.slice ad n c)) K = K (.val (.int .i64 n)) := Aa rfl
section
variable {len lim : Nat} {KN : Nat → Nat → Prop} {l h : Int} {q2 : IntKind}
theorem Anr : Abk none none len lim KN = Dx (len ≤ lim) (KN 0 len) := by
 show ((0 ≤ (0:Int) ∧ (0:Int) ≤ (len : Int) ∧ (len : Int) ≤ lim) ∧ KN (Int.toNat 0) (Int.toNat len)) = _
 simp [Dx]
theorem AnC : Abk (some (.val (.int q l))) none len lim KN = Dx (0 ≤ l ∧ l ≤ len ∧ (len : Int) ≤ lim) (A8 l.toNat fun l => KN l len) := by
 show ((0 ≤ l ∧ l ≤ (len : Int) ∧ (len : Int) ≤ lim) ∧ KN l.toNat (Int.toNat len)) = _
 simp [Dx, A8]
theorem AmS : Abk none (some (.val (.int q h))) len lim KN = Dx (0 ≤ h ∧ h ≤ lim) (A8 h.toNat fun h => KN 0 h) := by
 show ((0 ≤ (0:Int) ∧ 0 ≤ h ∧ h ≤ lim) ∧ KN (Int.toNat 0) h.toNat) = _
 simp [Dx, A8]
theorem Amc : Abk (some (.val (.int q l))) (some (.val (.int q2 h))) len lim KN = Dx (0 ≤ l ∧ l ≤ h ∧ h ≤ lim) (A8 l.toNat fun l => A8 h.toNat fun h => KN l h) := Aa rfl
end
theorem Am5 {s : ByteArray} : Aq3 (.val (.string s)) lo hi K = Abk lo hi (bl s).length (bl s).length fun l h => A8 (((bl s).drop l).take (h - l)) fun r => K (.val (.string (str r))) := Aa rfl
theorem AnZ : Aod k (.sl k cs) lo hi K = Abk lo hi cs.length cs.length fun l h => A8 ((cs.drop l).take (h - l)) fun r => K (.sl k r) := by
 exact propext ⟨fun h => h.2, fun h => ⟨rfl, h⟩⟩
theorem Al4 : Aod k (.os k id ver p off n cp) lo hi K = Abk lo hi n cp fun l h => A8 (off + l) fun o => A8 (h - l) fun m => A8 (cp - l) fun c => K (.os k id ver p o m c) := by
 exact propext ⟨fun h => h.2, fun h => ⟨rfl, h⟩⟩
theorem AjL {ad : Option Addr} : Aod k (.val (.slice ad 0 0)) lo hi K = Abk lo hi 0 0 fun l h => K (.val (.slice ad 0 0)) := Aa rfl
theorem AmU : Aoa H n k (.fp (.arr n k cs)) lo hi K = Dx (n ≤ 9223372036854775807) (Abk lo hi n n fun l h => A8 ((cs.drop l).take (h - l)) fun r => K (.sl k r)) := by
 exact propext ⟨fun h => ⟨h.2.2.1, h.2.2.2⟩, fun h => ⟨rfl, rfl, h.1, h.2⟩⟩
/-- An array at the end of a way. -/
def Acm : Option TV → Nat → Nat → Option (List TV)
 | some (.arr n' k' cs), n, k => if n' = n ∧ k' = k then some cs else none
 | _, _, _ => none
theorem Aiw : Acm (some (.arr n k cs)) n k = some cs := by simp [Acm]
theorem An9 : Aoa H n k (.op id ver p) lo hi K = Be (FK H[id]? ver) fun x => Dx (n ≤ 9223372036854775807) (Be (Acm (Jo p x) n k) fun _ => Abk lo hi n n fun l h => A8 (h - l) fun m => A8 (n - l) fun c => K (.os k id ver p l m c)) := by
 unfold Aoa
 simp only
 cases h : H[id]? with
 | none => simp [FK, Be]
 | some o =>
  cases o with
  | gone v => simp [FK, Be]
  | ice v m y => simp [FK, Be]
  | fact i v t m => simp [FK, Be]
  | bld v t l => simp [FK, Be]
  | lp st pe fn N en ps ca cb => simp [FK, Be]
  | mpo kk es => simp [FK, Be]
  | mpd kk zs cl => simp [FK, Be]
  | mit m sn cl => simp [FK, Be]
  | sit s pos => simp [FK, Be]
  | obj v x =>
   by_cases hv : v = ver
   ·simp only [FK, Be, hv, Dx, A8, if_true, true_and]
    congr 1
    cases hg : Jo p x with
    | none => simp [Acm]
    | some y =>
     cases y with
     | arr n2 k2 ds =>
      by_cases h1 : n2 = n
      ·by_cases h2 : k2 = k
       ·simp [Acm, h1, h2]; exact Iff.rfl
       ·simp [Acm, h1, h2]
      ·simp [Acm, h1]
     | _ => simp [Acm]
   ·simp [FK, Be, hv]
theorem AhM {t : TypeId} : Aec t x K = Dx (lays x = true) (K (.ifc t x)) := Aa rfl
theorem Amk {f : Fn} : Apz f cs ys K = Dx (Px (cs ++ ys)) (K (.fn f cs ys)) := Aa rfl
theorem Alr : Acy (.op id ver p) K = K (.op id ver p) := Aa rfl
theorem Aja : Acy (.fp y) K = K (.fp y) := Aa rfl
theorem Ak2 {f : FuncId} {a b : List TV} : Acy (.fn (.func f) a b) K = K (.fn (.func f) a b) := Aa rfl
theorem AfZ {t : TypeId} : Acy (.ifc t y) K = K (.ifc t y) := Aa rfl
theorem AeX {f : FuncId} {a b : Array Value} : Acy (.val (.func (.func f) a b)) K = K (.val (.func (.func f) a b)) := Aa rfl
section
variable {a b : Int} {q2 : IntKind}
theorem Amo : AqQ (.val (.int q a)) (.val (.int q2 b)) K = vif (decide (b < a)) (K (.val (.int q b))) (K (.val (.int q a))) := by
 show K _ = _
 by_cases h : b < a <;> simp [vif, h]
theorem AnD : AqX (.val (.int q a)) (.val (.int q2 b)) K = vif (decide (a < b)) (K (.val (.int q b))) (K (.val (.int q a))) := by
 show K _ = _
 by_cases h : a < b <;> simp [vif, h]
theorem Akm {q1 q2 q3 : IntKind} {l h m : Int} : Z4 (.sl3 k) H [.sl k cs, .val (.int q1 l), .val (.int q2 h), .val (.int q3 m)] K = Dx (0 ≤ l ∧ l ≤ h ∧ h ≤ m ∧ m ≤ cs.length) (A8 ((cs.drop l.toNat).take (h.toNat - l.toNat)) fun r => K (.sl k r)) := by
 unfold Z4 gev Dx A8
 simp only [true_and]
 by_cases hc : 0 ≤ l ∧ l ≤ h ∧ h ≤ m ∧ m ≤ cs.length
 ·rw [if_pos hc]; simp [hc]
 ·rw [if_neg hc]; simp only [hc, false_and]
theorem AiX {n : Nat} {b : Bool} {xs ys : List UInt8} : Z4 (.eqA n b) H [.arr n 1 (xs.map by8), .arr n 1 (ys.map by8)] K = A8 (TV.val (.bool (xor b (xs == ys)))) K := by
 unfold Z4 gev A8
 simp only [ZI, U5, and_self, if_true]
theorem AiB {q : IntKind} {n : Int} : Z4 .r2s H [.val (.int q n)] K = A8 (TV.val (.string (Utf8.encode n))) K := Aa rfl
theorem Aj2 {t t' : TypeId} : Z4 (.tas t) H [.ifc t' x] K = Dx (t' = t) (K x) := by
 unfold Z4 gev Dx
 by_cases h : t' = t <;> simp [h]
theorem Ail {a : Option Addr} {l n : Nat} : Z4 .capV H [.val (.slice a l n)] K = A8 (TV.val (.int .i64 (n : Int))) K := Aa rfl
theorem AiR {n : Nat} : Z4 (.s2a n k) H [.sl k cs] K = Dx (0 < n ∧ n ≤ cs.length) (A8 (cs.take n) fun r => K (.fp (.arr n k r))) := by
 unfold Z4 gev Dx A8
 simp only [true_and]
 by_cases hc : 0 < n ∧ n ≤ cs.length
 ·rw [if_pos hc]; simp [hc]
 ·rw [if_neg hc]; simp only [hc, false_and]
theorem Aql {s t : Bool} : Aoq false (.val (.bool s)) (.val (.bool t)) K = A8 (TV.val (.bool (s == t))) K := by
 show K _ = _; simp [A8]
theorem AqB {s t : Bool} : Aoq true (.val (.bool s)) (.val (.bool t)) K = A8 (TV.val (.bool (!(s == t)))) K := by
 show K _ = _; simp [A8]
theorem Apd {m b : Bool} : Aoy m (some true) (some b) K = A8 (TV.val (.bool (xor m b))) K := Aa rfl
theorem AqE {m : Bool} : Aoy m (some false) (some true) K = A8 (TV.val (.bool (xor m false))) K := Aa rfl
end
theorem Alg {kk : MK} {m : Nat} {kx v : TV} : Aif kk (.mp m 0) kx v H KK = Be (YK kk H[m]?) fun es => Be (BC kk kx) fun kb => Dx (lays v = true) (A8 (EZ kb v es) fun es' => A8 (H.set m (.mpo kk es')) fun H' => KK .any H') := by
 unfold Aif
 cases hh : H[m]? with
 | none => cases BC kk kx <;> simp [hh, YK, Be]
 | some o =>
  cases o with
  | mpo kk' es =>
   by_cases hk : kk' = kk
   ·subst hk; cases BC kk' kx <;> simp [hh, YK, Be, Dx, A8]
   ·cases BC kk kx <;> simp [hh, YK, Be, hk]
  | _ => cases BC kk kx <;> simp [hh, YK, Be]
theorem Ajh {kk : MK} {m : Nat} {kx z : TV} : AhW kk z (.mp m 0) kx H KK = Be (YK kk H[m]?) fun es => Be (BC kk kx) fun kb => A8 ((Fb kb es).getD z) fun y => A8 (SC kb es) fun p => A8 (EZ kb y es) fun es' => A8 (H.set m (.mpo kk es')) fun H' => KK (.tup [y, .val (.int .i64 (p : Int))]) H' := by
 unfold AhW
 cases hh : H[m]? with
 | none => cases BC kk kx <;> simp [hh, YK, Be]
 | some o =>
  cases o with
  | mpo kk' es =>
   by_cases hk : kk' = kk
   ·subst hk; cases BC kk' kx <;> simp [hh, YK, Be, A8]
   ·cases BC kk kx <;> simp [hh, YK, Be, hk]
  | _ => cases BC kk kx <;> simp [hh, YK, Be]
def AaD : Option Ob → Option (MK × List (List UInt8 × TV))
 | some (.mpo kk es) => some (kk, es)
 | _ => none
theorem AfX {kk : MK} {es : List (List UInt8 × TV)} : AaD (some (.mpo kk es)) = some (kk, es) := by simp [AaD]
theorem Alj {m j : Nat} {q : IntKind} {v : TV} : AgW (.mp m 0) (.val (.int q (j : Int))) v H KK = Be (AaD H[m]?) fun p => Dx (lays v = true) (Be p.2[j]? fun y => A8 (p.2.set j (y.1, v)) fun es' => A8 (H.set m (.mpo p.1 es')) fun H' => KK .any H') := by
 unfold AgW
 cases hh : H[m]? with
 | none => simp [hh, AaD, Be]
 | some o =>
  cases o with
  | mpo kk' es =>
   simp only [hh, AaD, Be, Dx, A8, Int.natCast_nonneg, true_and, Int.toNat_natCast]
   cases es[j]? <;> simp
  | _ => simp [hh, AaD, Be]
theorem AfW {kk : MK} {z kx : TV} {ok : Bool} {m : Nat} : Z4 (.look kk z ok) H [.mp m 0, kx] K = Be (PD kk H[m]?) fun es => Be (BC kk kx) fun kb => A8 (YP z ok (Fb kb es)) K := by
 unfold Z4 gev Abi
 cases hh : H[m]? with
 | none => cases hb : BC kk kx <;> simp [hh, hb, PD, Be]
 | some o =>
  cases o with
  | mpo kk' es =>
   by_cases hk : kk' = kk
   ·subst hk; cases hb : BC kk' kx <;> simp [hh, hb, PD, Be, A8]
   ·cases hb : BC kk kx <;> simp [hh, hb, PD, Be, hk]
  | mpd kk' zs cl =>
   by_cases hk : kk' = kk
   ·subst hk; cases hb : BC kk' kx <;> simp [hh, hb, PD, Be, A8]
   ·cases hb : BC kk kx <;> simp [hh, hb, PD, Be, hk]
  | _ => cases hb : BC kk kx <;> simp [hh, hb, PD, Be]
theorem Afj {kk : MK} {z kx : TV} {ok : Bool} : Z4 (.look kk z ok) H [.val (.map none), kx] K = Be (BC kk kx) fun kb => A8 (YP z ok none) K := by
 unfold Z4 gev Abi
 cases hb : BC kk kx <;> simp [hb, Be, A8]
theorem Aga {m : Nat} : Z4 .lenM H [.mp m 0] K = Be (Ad5 H[m]?) fun p => A8 p.length fun n => A8 (TV.val (.int .i64 (n : Int))) K := by
 unfold Z4 gev Aka
 cases hh : H[m]? with
 | none => simp [hh, Ad5, Be]
 | some o => cases o <;> simp [hh, Ad5, Be, A8]
theorem Aha {id : Nat} : Z4 .entM H [.op id 0 []] K = Be (AaV H[id]?) fun p => Be (stO H[p.1]?) fun q => Be (AgN p q) K := by
 unfold Z4 gev Aq5
 cases hh : H[id]? with
 | none => simp [hh, AaV, Be]
 | some o =>
  cases o with
  | mit m sn cl =>
   simp only [hh, AaV, Be, AgN]
   cases h2 : stO H[m]? with
   | none => simp
   | some q =>
    obtain ⟨kk, zs, cl'⟩ := q
    cases h3 : sn.getLast? with
    | none => simp
    | some s =>
     by_cases hc : cl' = cl
     ·subst hc; cases hf : zs.find? (·.1 == s) <;> simp [hf]
     ·simp [hc]
  | _ => simp [hh, AaV, Be]
theorem Aik {sz : Nat} : AcW H sz (.op id ver p) y KK = Dx (lays y = true ∧ AB y = sz) (Be (FK H[id]? ver) fun z => Be (TK p z y) fun z' => A8 (H.set id (.obj ver z')) fun H' => KK .any H') := by
 unfold AcW
 simp only [Dx]
 congr 1
 cases h : H[id]? with
 | none => simp [FK, Be]
 | some o =>
  cases o with
  | gone v => simp [FK, Be]
  | ice v m y => simp [FK, Be]
  | fact i v t m => simp [FK, Be]
  | bld v t l => simp [FK, Be]
  | lp st pe fn N en ps ca cb => simp [FK, Be]
  | mpo kk es => simp [FK, Be]
  | mpd kk zs cl => simp [FK, Be]
  | mit m sn cl => simp [FK, Be]
  | sit s pos => simp [FK, Be]
  | obj v x =>
   by_cases hv : v = ver
   ·subst hv; simp only [FK, Be, A8, if_true, true_and]; cases TK p x y <;> rfl
   ·simp [FK, Be, hv]
theorem Ano {z : TV} {l c : Int} {q2 : IntKind} {bytes : Nat} : AqV H k bytes z (.val (.int q l)) (.val (.int q2 c)) KK = Dx (0 ≤ l ∧ l ≤ c ∧ (bytes : Int) * c ≤ 281474976710656 ∧ c ≤ 9223372036854775807) (A8 l.toNat fun l => A8 c.toNat fun c => A8 H.length fun m => A8 (H ++ [.obj 0 (.arr c k (List.replicate c z))]) fun H' => KK (.os k m 0 [] 0 l c) H') := Aa rfl
/-- A row that may grow: a nil slice, or an object of one's own. -/
theorem Akx {bytes : Nat} {et : TypeId} : Anu k bytes et (.val (.slice none 0 0)) (some ys) H KK = Dx (ys.length * bytes ≤ 140737488355328 ∧ ys.length ≤ 9223372036854775807) (A8 ys.length fun n => A8 H.length fun m => A8 (H ++ [.obj 1 (.arr n k ys)]) fun H' => KK (.os k m 1 [] 0 n n) H') := Aa rfl
/-- The array in an object. -/
def AdM : Option TV → Nat → Option (List TV)
 | some (.arr _ k' cs), k => if k' = k then some cs else none
 | _, _ => none
theorem AkT : AdM (some (.arr n k cs)) k = some cs := by simp [AdM]
theorem AkF {v n2 : Nat} {et : TypeId} : AiZ (some (.obj v (.arr n2 k cs))) v k et off n ys = some (.obj (v + 1) (.arr (n + ys.length) k ((cs.drop off).take n ++ ys))) := by simp [AiZ]
theorem Aed {v : Nat} {et : TypeId} {l m : List UInt8} : AiZ (some (.bld v et l)) v 1 et 0 n (m.map by8) = some (.bld (v + 1) et (l.take n ++ m)) := by
 simp only [AiZ, ZI, U5, and_self, if_true]
theorem Ahs {v : Nat} {et : TypeId} {l : List UInt8} {b : UInt8} : AiZ (some (.bld v et l)) v 1 et 0 n [by8 b] = some (.bld (v + 1) et (l.take n ++ [b])) := Aed (m := [b])
theorem Akl {v n2 : Nat} : Aoc (some (.obj v (.arr n2 k cs))) = cs.length := by simp [Aoc]
theorem AkI {v : Nat} {et : TypeId} {l : List UInt8} : Aoc (some (.bld v et l)) = l.length := by simp [Aoc]
theorem Am0 {bytes : Nat} {et : TypeId} : Anu k bytes et (.os k id ver [] off n cp) (some ys) H KK = Be (AiZ H[id]? ver k et off n ys) fun o => Dx (off + n ≤ Aoc H[id]? ∧ (n + ys.length) * bytes ≤ 140737488355328 ∧ n + ys.length ≤ 9223372036854775807)
   (A8 (n + ys.length) fun m => A8 (H.set id o) fun H' => KK (.os k id (ver + 1) [] 0 m m) H') := by
 unfold Anu Adp
 simp only [true_and]
 cases h : AiZ H[id]? ver k et off n ys with
 | none => simp [Be]
 | some o => simp [Be, Dx, A8]
theorem Ajz {s : ByteArray} {et : TypeId} : Ak5 et x (.val (.string s)) H KK = A8 ((bl s).map by8) fun ys => Anu 1 1 et x (some ys) H KK := Aa rfl
/-- How many elements an array has. -/
def A2d : Option TV → Option Nat
 | some (.arr n _ _) => some n
 | _ => none
theorem Al7 : A2d (some (.arr n k cs)) = some n := Aa rfl
theorem AjQ : Adq k (.os k id ver p off n cp) (some ys) H KK = Be (FK H[id]? ver) fun z => Be (AdM (Jo p z) k) fun cs => Be (A2d (Jo p z)) fun N => Dx (off + n ≤ cs.length) (Be (TK p z (.arr N k (cs.take off ++ (ys.take n ++ cs.drop (off + min ys.length n))))) fun z' =>
  A8 (H.set id (.obj ver z')) fun H' => A8 (TV.val (.int .i64 (min ys.length n : Nat))) fun r => KK r H') := by
 unfold Adq TC
 simp only [true_and]
 cases h : H[id]? with
 | none => simp [FK, Be]
 | some o =>
  cases o with
  | gone v => simp [FK, Be]
  | ice v m y => simp [FK, Be]
  | fact i v t m => simp [FK, Be]
  | bld v t l => simp [FK, Be]
  | lp st pe fn N en ps ca cb => simp [FK, Be]
  | mpo kk es => simp [FK, Be]
  | mpd kk zs cl => simp [FK, Be]
  | mit m sn cl => simp [FK, Be]
  | sit s pos => simp [FK, Be]
  | obj v x =>
   by_cases hv : v = ver
   ·simp only [FK, Be, hv, if_true, true_and]
    cases hg : Jo p x with
    | none => simp [AdM]
    | some y =>
     cases y with
     | arr n2 k2 ds =>
      by_cases h1 : k2 = k
      ·subst h1; simp only [AdM, A2d, Dx, A8, if_true, true_and]; refine congrArg (_ ∧ ·) ?_; cases TK p x (.arr n2 k2 (ds.take off ++ (ys.take n ++ ds.drop (off + min ys.length n)))) <;> rfl
      ·simp [AdM, h1]
     | _ => simp [AdM]
   ·simp [FK, Be, hv]
theorem Agu {s : ByteArray} : Aev x (.val (.string s)) H KK = A8 ((bl s).map by8) fun ys => Adq 1 x (some ys) H KK := Aa rfl
theorem Ajb {f : FuncId} {j v : Nat} {l : List UInt8} : Aj1 P f (some (j, v, l)) H KK = Dx (Arf P f) (Dx (l.length ≤ 9223372036854775807) (A8 (H.set j (.gone v)) fun H' => KK (.val (.string (str l))) H')) := Aa rfl
def Aox (o : Option Ob) (j v n : Nat) (a : TV) : Option (Nat × Nat × List UInt8) := match o with
 | some (.bld v3 t l) => if v3 = v ∧ t = Acs ∧ n = l.length ∧ AB a = 1 then some (j, v, l) else none
 | _ => none
def AkU (H : List Ob) (j v n : Nat) (a : TV) : Option (Nat × Nat × List UInt8) := Aox H[j]? j v n a
def Afi (H : List Ob) (q : Option TV) : Option (Nat × Nat × List UInt8) := match q with
 | some (.agg [a, .os 1 j v2 [] 0 n cp]) => AkU H j v2 n a
 | _ => none
theorem AkR {id ver : Nat} {p : List (Nat × Nat)} : Afg H (.op id ver p) = Afi H ((FK H[id]? ver).bind (Jo p)) := by
 unfold Afg
 simp only []
 cases h : H[id]? with
 | none => simp [FK, Afi]
 | some o =>
  cases o with
  | obj v y =>
   by_cases hv : v = ver
   ·simp only [FK, hv, if_true, Option.bind_some]
    unfold Afi AkU Aox
    rfl
   ·simp [FK, Afi, hv]
  | _ => simp [FK, Afi]
theorem AkA {a : TV} {j v n cp : Nat} : Afi H (some (.agg [a, .os 1 j v [] 0 n cp])) = AkU H j v n a := Aa rfl
theorem Akv {a : TV} {j v n : Nat} : AkU H j v n a = Aox H[j]? j v n a := Aa rfl
theorem AnB {a : TV} {j v n : Nat} {l : List UInt8} (hn : n = l.length) (ha : AB a = 1) : Aox (some (.bld v 5 l)) j v n a = some (j, v, l) := by
 simp [Aox, hn, ha, Acs]
theorem An4 {s : ByteArray} : AqY H (.val (.string s)) KK = Dx ((bl s).length ≤ 9223372036854775807) (A8 (bl s).length fun n => A8 ((bl s).map by8) fun r => A8 H.length fun m => A8 (H ++ [.obj 0 (.arr n 1 r)]) fun H' => KK (.os 1 m 0 [] 0 n n) H') := Aa rfl
theorem AiF {z : TV} {j : Int} {bytes : Nat} : Ajd k bytes z (.val (.slice none 0 0)) (.val (.int .i64 j)) H KK = Dx (0 ≤ j ∧ (bytes : Int) * j ≤ 140737488355328 ∧ j ≤ 9223372036854775807) (A8 j.toNat fun n => A8 H.length fun m => A8 (H ++ [.obj 0 (.arr n k (List.replicate n z))]) fun H' => KK (.os k m 0 [] 0 n n) H') := Aa rfl
theorem Akg {n : Bool} {a : Option Addr} {l c : Nat} : AlM n (.val (.slice a l c)) H KK = KK (.val (.bool (xor n a.isNone))) H := Aa rfl
theorem Aml {n : Bool} : AlM n (.sl k cs) H KK = vif (decide (cs.length = 0)) (Adw H KK) (KK (.val (.bool n)) H) := by
 unfold AlM vif Adw
 by_cases h : cs = []
 ·subst h; simp
 ·have h2 : ¬ cs.length = 0 := fun e => h (List.length_eq_zero_iff.1 e)
  simp [h, h2]
theorem Am3 {n : Bool} {m off l cp : Nat} {p : List (Nat × Nat)} : AlM n (.os k m ver p off l cp) H KK = vif (decide (l = 0)) (Adw H KK) (KK (.val (.bool n)) H) := by
 unfold AlM vif Adw
 by_cases h : l = 0
 ·subst h; simp
 ·simp [h]
theorem Ad2 (h1 : KK (.val (.bool true)) H) (h2 : KK (.val (.bool false)) H) : Adw H KK := ⟨h1, h2⟩
theorem Ag1 {f : FuncId} {a b : List TV} : Aaw P (.fn (.func f) a b) cs H KK = Dx (Tj P f = true) (A8 (a ++ cs ++ b) fun xs => VC P f xs H KK) := Aa rfl
theorem AfM {f : FuncId} : Aaw P (.val (.func (.func f) #[] #[])) cs H KK = Dx (Tj P f = true) (VC P f cs H KK) := by
 exact propext ⟨fun h => ⟨h.2.1, h.2.2⟩, fun h => ⟨rfl, h.1, h.2⟩⟩
theorem Af9 : Aaw P (.yl id ver) cs H KK = VY P id ver cs H KK := Aa rfl
theorem AmA {nm : String} {t : TypeId} : ApZ P nm (.ifc t x) cs H KK = Aoi P (Aes P t nm) x cs H KK := by
 unfold ApZ Arb Aoi
 show (match Aes P t nm with | some (f, none) => _ | some (f, some (ag, sz)) => _ | none => False) = _
 rcases Aes P t nm with _ | ⟨f, _ | ⟨ag, sz⟩⟩ <;> rfl
theorem Aqo {f : FuncId} : Aoi P (some (f, none)) x cs H KK = Dx (Tj P f = true) (A8 (x :: cs) fun xs => VC P f xs H KK) := Aa rfl
theorem ApF {f : FuncId} {ag : Bool} {sz : Nat} : Aoi P (some (f, some (ag, sz))) x cs H KK = Dx (Tj P f = true) (AdB H ag sz x fun y => A8 (y :: cs) fun xs => VC P f xs H KK) := Aa rfl
theorem Asl {t : Bool} {A B : Prop} : Gd (some t) true A B = vif t A B := Aa rfl
theorem ArJ {t : Bool} {A B : Prop} : Gd (some t) false A B = vif t B A := by cases t <;> simp [Gd, vif]
theorem A3t {b : Bool} {A B : Prop} : Gd none b A B = B := Aa rfl
end

section
variable {Q : VEx → Env → List Ob → Prop} {l : List VO} {kp : List Nat} {a b : Af}
def Akn (x : TV) (A B : Prop) [Tg A] [Tg B] : Prop := match x with
  | .val (.bool t) => if t = true then A else B
  | _ => False
@[congr] theorem Asp {x x' : TV} {A B : Prop} (h : x = x') : Akn x A B = Akn x' A B := by rw [h]
theorem AjS {t : Bool} {A B : Prop} : Akn (.val (.bool t)) A B = vif t A B := Aa rfl
theorem Asn : vwp P (.ops l kp) Q e H = YL P l (fun e H => A8 (forget kp e) fun e => Q .nor e H) e H := Aa rfl
def Ad7 (zs : List Nat) (e : Env) (H : List Ob) (K : Env → List Ob → Prop) [Tg K] : Prop := Am1 zs K e H
@[congr] theorem ArL {zs : List Nat} {e e' : Env} {H H' : List Ob} {K : Env → List Ob → Prop} (h1 : e = e') (h2 : H = H') : Ad7 zs e H K = Ad7 zs e' H' K := by rw [h1, h2]
theorem AqG {K : Env → List Ob → Prop} : Ad7 [] e H K = K e H := Aa rfl
theorem Ao9 {s k id ver off n cp m : Nat} {zs : List Nat} {xs : List TV} {K : Env → List Ob → Prop} (hg : get e s = .os k id ver [] off n cp) (ho : H[id]? = some (.obj ver (.arr m k xs))) (hn : off + n ≤ xs.length) (h : Ad7 zs ((s, .sl k ((xs.drop off).take n)) :: e) (H.set id (.gone ver)) K) : Ad7 (s :: zs) e H K := by
 unfold Ad7 at h ⊢
 rw [Am1, hg]
 simp only [ho]
 refine ⟨trivial, ?_⟩
 have : Di [] k off n (.arr m k xs) = some ((xs.drop off).take n) := by unfold Di; simp [Jo, hn]
 rw [this]; exact h
theorem Apy {l r : List VO} {zs kp : List Nat} : vwp P (.opsZ l zs r kp) Q e H = YL P l (fun e H => Ad7 zs e H fun e H => YL P r (fun e H => A8 (forget kp e) fun e => Q .nor e H) e H) e H := Aa rfl
theorem AqD {n : Nat} : vwp P (.draw n l kp) Q e H = (vq P (l.take n) (fun e => YL P (l.drop n) (fun e H => A8 (forget kp e) fun e => Q .nor e H) e H) e H) := Aa rfl
/-- What follows. -/
def Thn (P : Program) (b : Af) (Q : VEx → Env → List Ob → Prop) : VEx → Env → List Ob → Prop := fun x e H => match x with | .nor => vwp P b Q e H | .exit i => Q (.exit i) e H | .ret => Q .ret e H | .pan u => Q (.pan u) e H
theorem Al5 : Thn P b Q .nor e H = vwp P b Q e H := Aa rfl
theorem AjA {i : Nat} : Thn P b Q (.exit i) e H = Q (.exit i) e H := Aa rfl
theorem Amj : Thn P b Q .ret e H = Q .ret e H := Aa rfl
theorem ArF : vwp P (.seq a b) Q e H = vwp P a (Thn P b Q) e H := Aa rfl
/-- The end of a block. -/
def Blk (id : Nat) (Q : VEx → Env → List Ob → Prop) : VEx → Env → List Ob → Prop := fun x e H => match x with | .nor => Q .nor e H | .exit i => if i = id then Q .nor e H else Q (.exit i) e H | .ret => Q .ret e H | .pan u => Q (.pan u) e H
theorem Ahx {id : Nat} : Blk id Q .nor e H = Q .nor e H := Aa rfl
theorem Akj {id : Nat} : Blk id Q (.exit id) e H = Q .nor e H := by simp [Blk]
theorem Ad6 {id i : Nat} (h : i ≠ id) : Blk id Q (.exit i) e H = Q (.exit i) e H := by simp [Blk, h]
theorem AmW {id : Nat} : Blk id Q .ret e H = Q .ret e H := Aa rfl
theorem Anh {id : Nat} : vwp P (.block id a) Q e H = vwp P a (Blk id Q) e H := Aa rfl
theorem Aqc {c : Opd} : vwp P (.cond c a b) Q e H = Akn (c.ev e) (vwp P a Q e H) (vwp P b Q e H) := Aa rfl
/-- The end of a round, from a beginning with n0 objects on. -/
def Rnd (n0 : Nat) (lv : List Nat) (Q : VEx → Env → List Ob → Prop) (I : Nat → Env → List Ob → Prop) (n : Nat) : VEx → Env → List Ob → Prop := fun x e H => match x with
 | .nor => ∃ m g, m < n ∧ (n0 ≤ g ∧ (H.length ≤ g ∨ (Yt g (forget lv e) = true ∧ Ic g (H.take g) = true))) ∧ I m (forget lv e) (H.take g)
 | .exit i => Q (.exit i) e H | .ret => Q .ret e H | .pan u => Q (.pan u) e H
section
variable {n0 : Nat} {lv : List Nat} {I : Nat → Env → List Ob → Prop} {n : Nat}
theorem AkC {i : Nat} : Rnd n0 lv Q I n (.exit i) e H = Q (.exit i) e H := Aa rfl
theorem Amg : Rnd n0 lv Q I n .ret e H = Q .ret e H := Aa rfl
/-- A round's end, all objects kept. -/
theorem Az (m : Nat) (hm : m < n) (h : n0 ≤ H.length) (hR : I m (forget lv e) H) : Rnd n0 lv Q I n .nor e H := by
 refine ⟨m, H.length, hm, ⟨h, .inl (Nat.le_refl _)⟩, ?_⟩
 rw [List.take_length]; exact hR
/-- A round's end; the objects from the g-th on are forgotten. -/
theorem JP (m g : Nat) (hm : m < n) (h : n0 ≤ g) (he : Yt g (forget lv e) = true) (hH : Ic g (H.take g) = true) (hR : I m (forget lv e) (H.take g)) : Rnd n0 lv Q I n .nor e H :=
 ⟨m, g, hm, ⟨h, .inr ⟨he, hH⟩⟩, hR⟩
end
/-- A LOOP: what holds ahead of each round. -/
theorem BG {lv : List Nat} {H0 : List Ob} (I : Nat → Env → List Ob → Prop) (n : Nat) (h0 : I n (forget lv e) H0)
  (hs : ∀ n e H, I n e H → vwp P a (Rnd H0.length lv Q I n) e H) : vwp P (.loop lv a) Q e H0 := by
 rw [Apl]
 exact ⟨I, n, h0, hs⟩
theorem o_g {d s : Nat} {o : VOp} {b : Bool} {r : List VO} {K : Env → List Ob → Prop} : YL P (⟨some d, o, some (s, b)⟩ :: r) K e H = Aah e s fun e q => Gd q b (vop P o e H (fun x H => YL P r K ((d, x) :: e) H)) (YL P r K ((d, .val undef) :: e) H) := by
 rw [Aov]; refine congrArg (Aah e s) ?_; funext e q; cases q <;> rfl
def Ag4 (x : TV) (e : Env) (s : Nat) (Q : Env → Option Bool → Prop) [Tg Q] : Prop := match x with
 | .val v => Q e (isB v)
 | .any => (∀ t, Q ((s, .val (.bool t)) :: e) (some t)) ∧ ∀ v, isB v = none → Q ((s, .val v) :: e) none
 | _ => False
@[congr] theorem A2c {x x' : TV} {s : Nat} {Q : Env → Option Bool → Prop} (h : x = x') : Ag4 x e s Q = Ag4 x' e s Q := by rw [h]
theorem Aqk {s : Nat} {Q : Env → Option Bool → Prop} : Aah e s Q = Ag4 (get e s) e s Q := Aa rfl
theorem AmC {b : Bool} {s : Nat} {Q : Env → Option Bool → Prop} : Ag4 (.val (.bool b)) e s Q = Q e (some b) := Aa rfl
theorem AnP {s : Nat} {Q : Env → Option Bool → Prop} : Ag4 (.val undef) e s Q = Q e none := Aa rfl
theorem u_c {d : Nat} {f : FuncId} {args : List Opd} {r : List VO} {K : Env → Prop} : vq P (⟨some d, .s (.call f args), none⟩ :: r) K e H = A8 (evs e args) fun xs => Dx (Px xs) (vex fun x => VC P f xs H (fun y H' => y = x ∧ H' = H) ∧ vq P r K ((d, x) :: e) H) := by
 rw [A3e, MH]; rfl
def Gq (x : TV) (b : Bool) (A B : Prop) [Tg A] [Tg B] : Prop := match x with
 | .val v => if isB v = some b then A else B
 | _ => False
@[congr] theorem A3J {x x' : TV} {b : Bool} {A B : Prop} (h : x = x') : Gq x b A B = Gq x' b A B := by rw [h]
theorem A3x {t : Bool} {A B : Prop} : Gq (.val (.bool t)) true A B = vif t A B := by cases t <;> simp [Gq, vif, isB]
theorem A3F {b : Bool} {A B : Prop} : Gq (.val undef) b A B = B := by simp [Gq, isB, undef]
theorem A3g {t : Bool} {A B : Prop} : Gq (.val (.bool t)) false A B = vif t B A := by cases t <;> simp [Gq, vif, isB]
theorem u_g {d s : Nat} {o : VOp} {b : Bool} {r : List VO} {K : Env → Prop} : vq P (⟨some d, o, some (s, b)⟩ :: r) K e H = Gq (get e s) b (AbE P o e H fun x => vq P r K ((d, x) :: e) H) (vq P r K ((d, .val undef) :: e) H) := Aa rfl
theorem A3v {f : FuncId} {args : List Opd} {k : TV → Prop} : AbE P (.s (.call f args)) e H k = A8 (evs e args) fun xs => Dx (Px xs) (vex fun x => VC P f xs H (fun y H' => y = x ∧ H' = H) ∧ k x) := by
 rw [AmD, MH]; rfl
def AoM (P : Program) (x : TV) (s k : Nat) (c : Af) (Q : VEx → Env → List Ob → Prop) (e : Env) (H : List Ob) : Prop := match x with
  | .val (.slice none 0 0) => vwp P c Q ((s, .os k H.length 0 [] 0 0 0) :: e) (H ++ [.obj 0 (.arr 0 k [])])
  | _ => vwp P c Q e H
@[congr] theorem A23 {x x' : TV} {s k : Nat} (h : x = x') : AoM P x s k a Q e H = AoM P x' s k a Q e H := by rw [h]
theorem A1T {s k : Nat} : vwp P (.own s k a) Q e H = AoM P (get e s) s k a Q e H := Aa rfl
theorem AjE {s k : Nat} : AoM P (.val (.slice none 0 0)) s k a Q e H = vwp P a Q ((s, .os k H.length 0 [] 0 0 0) :: e) (H ++ [.obj 0 (.arr 0 k [])]) := Aa rfl
theorem AmK {s k k' id ver off n cp : Nat} {p : List (Nat × Nat)} : AoM P (.os k' id ver p off n cp) s k a Q e H = vwp P a Q e H := Aa rfl
end
/-- Results. -/
theorem ArW {t : Nat} {K : TV → Prop} : res [.tmp t] e H K = A8 (get e t) K := Aa rfl
theorem Aor {t : Nat} {r : List VR} {K : List TV → Prop} : Ac7 (.tmp t :: r) e H K = A8 (get e t) fun x => Ac7 r e H fun xs => K (x :: xs) := Aa rfl
def A2N (K : TV → Prop) (xs : List TV) : Prop := match xs with
 | [x] => K x
 | xs => (∀ x ∈ xs, BU x = false) ∧ K (.tup xs)
theorem Aj5 {x y : TV} {l : List TV} {K : TV → Prop} : A2N K (x :: y :: l) = Dx (Px (x :: y :: l)) (A8 (TV.tup (x :: y :: l)) K) := Aa rfl
theorem ApS {r s : VR} {l : List VR} {K : TV → Prop} : res (r :: s :: l) e H K = Ac7 (r :: s :: l) e H (A2N K) := Aa rfl
theorem Aow {a sz : Nat} {ag : Bool} {K : TV → Prop} : res [.cell a ag sz] e H K = pop (.load ag sz (.t a)) e H K := Aa rfl
theorem ArH {K : TV → Prop} : res [] e H K = K (.tup []) := by rw [AhC]; simp
end

def VCP (P : Program) (f : FuncId) (xs : List TV) (H : List Ob) (K : TV → List Ob → Prop) (KP : Value → List Ob → Prop) [Tg K] [Tg KP] : Prop := XH P f xs H K KP
@[congr] theorem ApY {P : Program} {f : FuncId} {xs xs' : List TV} {H H' : List Ob} {K : TV → List Ob → Prop} {KP : Value → List Ob → Prop} (he : xs = xs') (hH : H = H') : VCP P f xs H K KP = VCP P f xs' H' K KP := by rw [he, hH]
def Aob (x : TV) (K : Value → Prop) [Tg K] : Prop := match x with
 | .val (.iface t v) => K (.iface t v)
 | .ifc t (.val v) => K (.iface t v)
 | _ => False
@[congr] theorem A3d {x x' : TV} {K : Value → Prop} (h : x = x') : Aob x K = Aob x' K := by rw [h]
theorem Ai5 {t : TypeId} {v : Value} {K : Value → Prop} : Aob (.ifc t (.val v)) K = K (.iface t v) := Aa rfl
theorem Ama {t : TypeId} {v : Value} {K : Value → Prop} : Aob (.val (.iface t v)) K = K (.iface t v) := Aa rfl
section
variable {P : Program} {e : Env} {H : List Ob} {r : List VO} {K : Env → List Ob → Prop} {PP : Value → List Ob → Prop} {Q : VEx → Env → List Ob → Prop}
@[congr] theorem Anq {l : List VO} {e' : Env} {H' : List Ob} (he : e = e') (hH : H = H') : SB P PP l K e H = SB P PP l K e' H' := by rw [he, hH]
@[congr] theorem An2 {o : VOp} {e' : Env} {H' : List Ob} {KK : TV → List Ob → Prop} (he : e = e') (hH : H = H') : pvop P PP o e H KK = pvop P PP o e' H' KK := by rw [he, hH]
theorem Aqa {l : List VO} {kp : List Nat} : vwp P (.pops l kp) Q e H = SB P (fun u H => Q (.pan u) (Adu l e) H) l (fun e H => A8 (forget kp e) fun e => Q .nor e H) e H := Aa rfl
theorem AmR {n : Nat} {l : List VO} {kp : List Nat} : vwp P (.pdraw n l kp) Q e H = (vq P (l.take n) (fun e => SB P (fun u H => Q (.pan u) [] H) (l.drop n) (fun e H => A8 (forget kp e) fun e => Q .nor e H) e H) e H) := Aa rfl
theorem AqC : SB P PP [] K e H = K e H := Aa rfl
theorem A3z {d : Nat} {o : VOp} : SB P PP (⟨some d, o, none⟩ :: r) K e H = pvop P PP o e H (fun x H => SB P PP r K ((d, x) :: e) H) := Aa rfl
theorem A2t {o : VOp} : SB P PP (⟨none, o, none⟩ :: r) K e H = pvop P PP o e H (fun x H => SB P PP r K e H) := Aa rfl
theorem A3l {d s : Nat} {o : VOp} {b : Bool} : SB P PP (⟨some d, o, some (s, b)⟩ :: r) K e H = Aah e s fun e q => Gd q b (pvop P PP o e H (fun x H => SB P PP r K ((d, x) :: e) H)) (SB P PP r K ((d, .val undef) :: e) H) := by
 show QD (pvop P PP) _ K e H = _
 rw [QD]
 refine congrArg (Aah e s) ?_; funext e q; cases q <;> rfl
theorem Apq {o : POp} {KK : TV → List Ob → Prop} : pvop P PP (.p o) e H KK = pop o e H fun x => KK x H := Aa rfl
theorem Ags {f : FuncId} {args : List Opd} {KK : TV → List Ob → Prop} : pvop P PP (.s (.call f args)) e H KK = A8 (evs e args) fun xs => Dx (Px xs) (VCP P f xs H KK PP) := by
 show ((∀ x ∈ args, BU (x.ev e) = false) ∧ _) = _
 rw [MH]; rfl
theorem Aln {x : Opd} {KK : TV → List Ob → Prop} : pvop P PP (.s (.pan x)) e H KK = Aob (x.ev e) (fun u => PP u H) := by
 show (match x.ev e with | .val (.iface t v) => PP (.iface t v) H | .ifc t (.val v) => PP (.iface t v) H | _ => False) = _
 unfold Aob
 split <;> simp_all
theorem Afz {z : TV} {KK : TV → List Ob → Prop} : pvop P PP (.s (.alloc z)) e H KK = sop P (.alloc z) e H KK := Aa rfl
theorem AjY {x : Opd} {KK : TV → List Ob → Prop} : pvop P PP (.s (.box x)) e H KK = sop P (.box x) e H KK := Aa rfl
theorem AdH {k n : Nat} {z : TV} {ps : List (Nat × Opd)} {KK : TV → List Ob → Prop} : pvop P PP (.s (.bslice k n z ps)) e H KK = sop P (.bslice k n z ps) e H KK := Aa rfl
theorem Afq {sz : Nat} {x v : Opd} {KK : TV → List Ob → Prop} : pvop P PP (.s (.store sz x v)) e H KK = sop P (.store sz x v) e H KK := Aa rfl
theorem Ajs {k bytes : Nat} {z : TV} {l c : Opd} {KK : TV → List Ob → Prop} : pvop P PP (.s (.mks k bytes z l c)) e H KK = sop P (.mks k bytes z l c) e H KK := Aa rfl
theorem AkK {k bytes : Nat} {et : TypeId} {x y : Opd} {KK : TV → List Ob → Prop} : pvop P PP (.s (.app k bytes et x y)) e H KK = sop P (.app k bytes et x y) e H KK := Aa rfl
theorem Agv {et : TypeId} {x y : Opd} {KK : TV → List Ob → Prop} : pvop P PP (.s (.appS et x y)) e H KK = sop P (.appS et x y) e H KK := Aa rfl
theorem Agh {k n : Nat} {z : TV} {x y : Opd} {KK : TV → List Ob → Prop} : pvop P PP (.s (.appZ k n z x y)) e H KK = sop P (.appZ k n z x y) e H KK := Aa rfl
theorem AkQ {x : Opd} {n : Bool} {KK : TV → List Ob → Prop} : pvop P PP (.s (.eqS x n)) e H KK = sop P (.eqS x n) e H KK := Aa rfl
theorem Ai9 {x : Opd} {KK : TV → List Ob → Prop} : pvop P PP (.s (.s2b x)) e H KK = sop P (.s2b x) e H KK := Aa rfl
theorem AgP {k : Nat} {x y : Opd} {KK : TV → List Ob → Prop} : pvop P PP (.s (.copy k x y)) e H KK = sop P (.copy k x y) e H KK := Aa rfl
theorem Aft {x y : Opd} {KK : TV → List Ob → Prop} : pvop P PP (.s (.copyS x y)) e H KK = sop P (.copyS x y) e H KK := Aa rfl
theorem AfL {x : Opd} {args : List Opd} {KK : TV → List Ob → Prop} : pvop P PP (.s (.callv x args)) e H KK = sop P (.callv x args) e H KK := Aa rfl
theorem AiJ {x : Opd} {nm : String} {args : List Opd} {KK : TV → List Ob → Prop} : pvop P PP (.s (.inv x nm args)) e H KK = sop P (.inv x nm args) e H KK := Aa rfl
theorem Akh {kk : MK} {h : Option Opd} {KK : TV → List Ob → Prop} : pvop P PP (.s (.mkm kk h)) e H KK = sop P (.mkm kk h) e H KK := Aa rfl
theorem Agk {kk : MK} {m k x : Opd} {KK : TV → List Ob → Prop} : pvop P PP (.s (.mupd kk m k x)) e H KK = sop P (.mupd kk m k x) e H KK := Aa rfl
theorem Ag7 {kk : MK} {z : TV} {m k : Opd} {KK : TV → List Ob → Prop} : pvop P PP (.s (.ment kk z m k)) e H KK = sop P (.ment kk z m k) e H KK := Aa rfl
theorem AhE {m st x : Opd} {KK : TV → List Ob → Prop} : pvop P PP (.s (.mest m st x)) e H KK = sop P (.mest m st x) e H KK := Aa rfl
theorem AdA {z : TV} {t : TypeId} {KK : TV → List Ob → Prop} : pvop P PP (.s (.allocT z t)) e H KK = sop P (.allocT z t) e H KK := Aa rfl
theorem Agi {x : Opd} {t : TypeId} {KK : TV → List Ob → Prop} : pvop P PP (.s (.boxT x t)) e H KK = sop P (.boxT x t) e H KK := Aa rfl
theorem Ahg {x : Opd} {KK : TV → List Ob → Prop} : pvop P PP (.s (.rngS x)) e H KK = sop P (.rngS x) e H KK := Aa rfl
theorem Af2 {x : Opd} {KK : TV → List Ob → Prop} : pvop P PP (.s (.nxtS x)) e H KK = sop P (.nxtS x) e H KK := Aa rfl
theorem AgD {x : Opd} {KK : TV → List Ob → Prop} : pvop P PP (.s (.rngM x)) e H KK = sop P (.rngM x) e H KK := Aa rfl
theorem Aiu {x : Opd} {KK : TV → List Ob → Prop} : pvop P PP (.s (.nxtM x)) e H KK = sop P (.nxtM x) e H KK := Aa rfl
theorem AgX {kk : MK} {m k : Opd} {KK : TV → List Ob → Prop} : pvop P PP (.s (.delM kk m k)) e H KK = sop P (.delM kk m k) e H KK := Aa rfl
theorem Ag6 {k : Nat} {z : TV} {x : Opd} {KK : TV → List Ob → Prop} : pvop P PP (.s (.clrS k z x)) e H KK = sop P (.clrS k z x) e H KK := Aa rfl
theorem Ahl {f : FuncId} {x : Opd} {KK : TV → List Ob → Prop} : pvop P PP (.s (.bstr f x)) e H KK = sop P (.bstr f x) e H KK := Aa rfl
theorem Am7 {b : Af} {u : Value} : Thn P b Q (.pan u) e H = Q (.pan u) e H := Aa rfl
theorem Ame {id : Nat} {u : Value} : Blk id Q (.pan u) e H = Q (.pan u) e H := Aa rfl
theorem AmE {n0 : Nat} {lv : List Nat} {I : Nat → Env → List Ob → Prop} {n : Nat} {u : Value} : Rnd n0 lv Q I n (.pan u) e H = Q (.pan u) e H := Aa rfl
theorem AeN {vr : List VR} {R : TV → List Ob → Prop} {RP : Value → List Ob → Prop} : Agx vr R RP .ret e H = res vr e H fun x => R x H := Aa rfl
theorem AfO {vr : List VR} {R : TV → List Ob → Prop} {RP : Value → List Ob → Prop} : Agx vr R RP .nor e H = res vr e H fun x => R x H := Aa rfl
theorem Afy {vr : List VR} {R : TV → List Ob → Prop} {RP : Value → List Ob → Prop} {u : Value} : Agx vr R RP (.pan u) e H = RP u H := Aa rfl
def Ac6 (P : Program) (PP : Value → List Ob → Prop) (Ss : List Nat) (l : List VO) (K : Env → List Ob → Prop) (e : Env) (H : List Ob) : Prop := QD (pvopS P PP Ss) l K e H
@[congr] theorem AnT {Ss : List Nat} {l : List VO} {e' : Env} {H' : List Ob} (he : e = e') (hH : H = H') : Ac6 P PP Ss l K e H = Ac6 P PP Ss l K e' H' := by rw [he, hH]
@[congr] theorem AlH {Ss : List Nat} {o : VOp} {e' : Env} {H' : List Ob} {KK : TV → List Ob → Prop} (he : e = e') (hH : H = H') : pvopS P PP Ss o e H KK = pvopS P PP Ss o e' H' KK := by rw [he, hH]
theorem An6 {n : Nat} {l : List VO} {kp : List Nat} : vwp P (.sdraw n l kp) Q e H = (vq P (l.take n) (fun e => Ac6 P (fun u H => Q (.pan u) [] H) (Aok l) (l.drop n) (fun e H => A8 (forget kp e) fun e => Q .nor e H) e H) e H) := Aa rfl
section
variable {Ss : List Nat}
theorem ApD : Ac6 P PP Ss [] K e H = K e H := Aa rfl
theorem A3E {d : Nat} {o : VOp} : Ac6 P PP Ss (⟨some d, o, none⟩ :: r) K e H = pvopS P PP Ss o e H (fun x H => Ac6 P PP Ss r K ((d, x) :: e) H) := Aa rfl
theorem Aso {o : VOp} : Ac6 P PP Ss (⟨none, o, none⟩ :: r) K e H = pvopS P PP Ss o e H (fun x H => Ac6 P PP Ss r K e H) := Aa rfl
theorem Aqz {o : POp} {KK : TV → List Ob → Prop} : pvopS P PP Ss (.p o) e H KK = pop o e H fun x => KK x H := Aa rfl
theorem Aio {f : FuncId} {args : List Opd} {KK : TV → List Ob → Prop} : pvopS P PP Ss (.s (.call f args)) e H KK = A8 (evs e args) fun xs => Dx (Px xs) (VCP P f xs H (fun x H' => KK x H' ∧ ZU Ss e H H') PP) := by
 show ((∀ x ∈ args, BU (x.ev e) = false) ∧ _) = _
 rw [MH]; rfl
theorem Afr {sz : Nat} {x v : Opd} {KK : TV → List Ob → Prop} : pvopS P PP Ss (.s (.store sz x v)) e H KK = sop P (.store sz x v) e H fun x H' => KK x H' ∧ ZU Ss e H H' := Aa rfl
theorem AeW {z : TV} {KK : TV → List Ob → Prop} : pvopS P PP Ss (.s (.alloc z)) e H KK = sop P (.alloc z) e H KK := Aa rfl
theorem AkM {k bytes : Nat} {z : TV} {l c : Opd} {KK : TV → List Ob → Prop} : pvopS P PP Ss (.s (.mks k bytes z l c)) e H KK = sop P (.mks k bytes z l c) e H KK := Aa rfl
theorem AkS {k bytes : Nat} {et : TypeId} {x y : Opd} {KK : TV → List Ob → Prop} : pvopS P PP Ss (.s (.app k bytes et x y)) e H KK = sop P (.app k bytes et x y) e H KK := Aa rfl
theorem Adc {k n : Nat} {z : TV} {ps : List (Nat × Opd)} {KK : TV → List Ob → Prop} : pvopS P PP Ss (.s (.bslice k n z ps)) e H KK = sop P (.bslice k n z ps) e H KK := Aa rfl
end
end
def Ag := (And.intro (And.intro (And.intro (And.intro (And.intro (And.intro (And.intro (And.intro @Arn @Aqv) (And.intro @A2v @A3k)) (And.intro (And.intro @ApB @Asy) (And.intro @A1Z @Aos))) (And.intro (And.intro (And.intro @Ak0 @AmQ) (And.intro @AoD @AnV)) (And.intro (And.intro @A2u @AoQ) (And.intro @A18 @Aph)))) (And.intro (And.intro (And.intro (And.intro @ApX @Aru) (And.intro @ArQ @A2F)) (And.intro (And.intro @An5 @A2e) (And.intro @AoE @ArV))) (And.intro (And.intro (And.intro @A2p @Ari) (And.intro @A1Y @AsD)) (And.intro (And.intro @Amw @AiG) (And.intro @A12 @Anp))))) (And.intro (And.intro (And.intro (And.intro (And.intro @AiN @Arm) (And.intro @AqN @Ap6)) (And.intro (And.intro @Api @AoZ) (And.intro @ApK @Apv))) (And.intro (And.intro (And.intro @AoY @ApO) (And.intro @AjK @AnQ)) (And.intro (And.intro @A2s @ArI) (And.intro @Apw @AoG)))) (And.intro (And.intro (And.intro (And.intro @Amt @Ar8) (And.intro @Ap8 @ArR)) (And.intro (And.intro @Ao5 @AoH) (And.intro @AoO @Apj))) (And.intro (And.intro (And.intro @Apo @ApN) (And.intro @AlP @AsA)) (And.intro (And.intro @Asn @Apy) (And.intro @AqG @AqD)))))) (And.intro (And.intro (And.intro (And.intro (And.intro (And.intro @ApG @ArF) (And.intro @Anh @Aqc)) (And.intro (And.intro @AoF @Asz) (And.intro @Anx @A1T))) (And.intro (And.intro (And.intro @AqJ @ApU) (And.intro @Aj4 @Apf)) (And.intro (And.intro @AqP @Ank) (And.intro @o_g @Aqk)))) (And.intro (And.intro (And.intro (And.intro @A10 @A2r) (And.intro @Aom @A3B)) (And.intro (And.intro @u_c @u_g) (And.intro @AnY @A3v))) (And.intro (And.intro (And.intro @AcL @AcQ) (And.intro @ArW @Aow)) (And.intro (And.intro @ArH @ApS) (And.intro @Aem @Aor))))) (And.intro (And.intro (And.intro (And.intro (And.intro @AcM @Aj5) (And.intro @Al5 @AjA)) (And.intro (And.intro @Amj @Ahx) (And.intro @Akj @Ad6))) (And.intro (And.intro (And.intro @AmW @AkC) (And.intro @Amg @Aqa)) (And.intro (And.intro @AmR @An6) (And.intro @ApD @A3E)))) (And.intro (And.intro (And.intro (And.intro @Aso @Aqz) (And.intro @Aio @Afr)) (And.intro (And.intro @AeW @AkM) (And.intro @AkS @Adc))) (And.intro (And.intro (And.intro @AqC @A3z) (And.intro @A2t @A3l)) (And.intro (And.intro @Apq @Ags) (And.intro @Aln @Afz))))))) (And.intro (And.intro (And.intro (And.intro (And.intro @AjY @AdH) (And.intro @Afq @Ajs)) (And.intro (And.intro @AkK @Agv) (And.intro @Ai9 @Agh))) (And.intro (And.intro (And.intro @AkQ @AgP) (And.intro @Aft @AfL)) (And.intro (And.intro @AiJ @Akh) (And.intro @Agk @Ag7)))) (And.intro (And.intro (And.intro (And.intro @AhE @AdA) (And.intro @Agi @Ahg)) (And.intro (And.intro @Af2 @AgD) (And.intro @Aiu @AgX))) (And.intro (And.intro (And.intro @Ag6 @Ahl) (And.intro @Am7 @Ame)) (And.intro (And.intro @AmE @AeN) (And.intro @AfO @Afy))))))
def Ad := (And.intro (And.intro (And.intro (And.intro (And.intro (And.intro (And.intro (And.intro @Ama @Ai5) (And.intro @Aiz @Aip)) (And.intro (And.intro @Anz @AmL) (And.intro @AoL @ApT))) (And.intro (And.intro (And.intro @AoA @Ag8) (And.intro @AiQ @AmJ)) (And.intro (And.intro @Akd @Apr) (And.intro @AhI @Ana)))) (And.intro (And.intro (And.intro (And.intro @AkE @Acu) (And.intro @AlZ @Bf)) (And.intro (And.intro @Ao7 @AhV) (And.intro @Amr @Aj0))) (And.intro (And.intro (And.intro @Us @AkV) (And.intro @Anv @Aps)) (And.intro (And.intro @Alp @AlW) (And.intro @AnL @AjG))))) (And.intro (And.intro (And.intro (And.intro (And.intro @AjH @Afa) (And.intro @Afw @Ah3)) (And.intro (And.intro @Ajg @Akf) (And.intro @Agd @Aid))) (And.intro (And.intro (And.intro @AlQ @AjR) (And.intro @AlV @AiU)) (And.intro (And.intro @Aj6 @Ajo) (And.intro @Aii @Anr)))) (And.intro (And.intro (And.intro (And.intro @AnC @AmS) (And.intro @Amc @Am5)) (And.intro (And.intro @AnZ @Al4) (And.intro @AjL @AmU))) (And.intro (And.intro (And.intro @Aiw @An9) (And.intro @AhM @Amk)) (And.intro (And.intro @Alr @Aja) (And.intro @Ak2 @AfZ)))))) (And.intro (And.intro (And.intro (And.intro (And.intro (And.intro @AeX @Amo) (And.intro @AnD @Aql)) (And.intro (And.intro @AqB @Apd) (And.intro @AqE @Akm))) (And.intro (And.intro (And.intro @AiX @AfW) (And.intro @Afj @Aga)) (And.intro (And.intro @AiB @AiR) (And.intro @Ail @Aj2)))) (And.intro (And.intro (And.intro (And.intro @AiF @Akg) (And.intro @Aml @Am3)) (And.intro (And.intro @AkP @AfX) (And.intro @AiM @Amu))) (And.intro (And.intro (And.intro @AiE @Al9) (And.intro @Ahv @Ahj)) (And.intro (And.intro @AjF @Alk) (And.intro @AiT @Ajv))))) (And.intro (And.intro (And.intro (And.intro (And.intro @Ajt @AiV) (And.intro @Ahz @AjV)) (And.intro (And.intro @Aha @Ao0) (And.intro @Aqf @Amd))) (And.intro (And.intro (And.intro @AlS @AnR) (And.intro @Alg @Ajh)) (And.intro (And.intro @Alj @Option.getD_none.{0}) (And.intro @Option.getD_some.{0} @Aik)))) (And.intro (And.intro (And.intro (And.intro @Ano @Akx) (And.intro @AkT @AkF)) (And.intro (And.intro @Aed @Ahs) (And.intro @Akl @AkI))) (And.intro (And.intro (And.intro @Am0 @Ajz) (And.intro @Al7 @AjQ)) (And.intro (And.intro @Agu @An4) (And.intro @Ajb @Alc))))))) (And.intro (And.intro (And.intro (And.intro (And.intro @Akt @Ak6) (And.intro @AkR @AkA)) (And.intro (And.intro @Akv @AnB) (And.intro @Ag1 @AmA))) (And.intro (And.intro (And.intro @Aqo @ApF) (And.intro @AfM @Af9)) (And.intro (And.intro @Asl @ArJ) (And.intro @A3t @AjS)))) (And.intro (And.intro (And.intro (And.intro @AmC @AnP) (And.intro @A3x @A3g)) (And.intro (And.intro @A3F @AjE) (And.intro @AmK @AkN))) (And.intro (And.intro (And.intro @Aj8 @Ani) (And.intro @AkO @AgG)) @AfF))))
def Ai := (And.intro (And.intro (And.intro (And.intro (And.intro (And.intro (And.intro (And.intro @AjB @Ajj) (And.intro @Am6 @Anl)) (And.intro (And.intro @Am4 @AnO) (And.intro @Alu @Ai6))) (And.intro (And.intro (And.intro @Ai8 @Ai3) (And.intro @AmZ @AmO)) (And.intro (And.intro @Am2 @Ag0) (And.intro @AgM @Ajl)))) (And.intro (And.intro (And.intro (And.intro @Ala @AiS) (And.intro @AiL @Ahf)) (And.intro (And.intro @AgR @Ahm) (And.intro @Ahy @Ako))) (And.intro (And.intro (And.intro @Akw @Ajq) (And.intro @AiP @AnM)) (And.intro (And.intro @Amy @An8) (And.intro @Amq @Aku))))) (And.intro (And.intro (And.intro (And.intro (And.intro @AiY @Aiy) (And.intro @Ajw @Ang)) (And.intro (And.intro @AlR @AmN) (And.intro @AgT @Af3))) (And.intro (And.intro (And.intro @AkZ @Akz) (And.intro @AjD @Ak7)) (And.intro (And.intro @AfU @Alf) (And.intro @Ai2 @AgF)))) (And.intro (And.intro (And.intro (And.intro @AgH @AiD) (And.intro @Alv @AjM)) (And.intro (And.intro @Akr @Aij) (And.intro @Aig @AiW))) (And.intro (And.intro (And.intro @Ali @Alt) (And.intro @Ahr @Ais)) (And.intro (And.intro @AfD @Ado) (And.intro @Agb @AhX)))))) (And.intro (And.intro (And.intro (And.intro (And.intro (And.intro @AgB @Aho) (And.intro @Afm @Ajx)) (And.intro (And.intro @AhR @Adv) (And.intro @Ab5 @AfC))) (And.intro (And.intro (And.intro @Alo @AgY) (And.intro @Acg @AaX)) (And.intro (And.intro @A3q @A3i) (And.intro @A3C @Aj7)))) (And.intro (And.intro (And.intro (And.intro @Aly @AiO) (And.intro @AeM @AkW)) (And.intro (And.intro @Akc @Afn) (And.intro @AdU @Ah2))) (And.intro (And.intro (And.intro @AeS @AjU) (And.intro @AfP @AdK)) (And.intro (And.intro @Ae5 @AdX) (And.intro @Agm @Ae8))))) (And.intro (And.intro (And.intro (And.intro (And.intro @Adf @AbW) (And.intro @Aa3 @Z7)) (And.intro (And.intro @Ant @Ajn) (And.intro @AhC @Aj9))) (And.intro (And.intro (And.intro @Aem @Alb) (And.intro @AcM @AcL)) (And.intro (And.intro @AcQ @Ak4) (And.intro @Ald @AnS)))) (And.intro (And.intro (And.intro (And.intro @Amv @Ak8) (And.intro @Amx @AmT)) (And.intro (And.intro @Ai7 @Aks) (And.intro @AjT @Af6))) (And.intro (And.intro (And.intro @Ae4 @AnU) (And.intro @AnJ @ApR)) (And.intro (And.intro @Amb @Al6) (And.intro @Amm @Anf))))))) (And.intro (And.intro (And.intro @AjW @Agl) (And.intro @AcC @AkH)) (And.intro (And.intro @ArA @Ap5) @ApH)))
theorem Afp {α β : Type} {f : α → β} {l : List α} {i : Nat} : (l.map f).drop i = (l.drop i).map f := List.map_drop.symm
theorem AfI {α β : Type} {f : α → β} {l : List α} {i : Nat} : (l.map f).take i = (l.take i).map f := List.map_take.symm
theorem Apg {b : UInt8} : IntKind.i64.wrap (b.toNat : Int) = b.toNat := Fv (by omega) (by have := b.toNat_lt; omega)
theorem Aqx {n : Nat} : IntKind.u8.wrap (n : Int) = ((UInt8.ofNat n).toNat : Int) := by
 rw [IntKind.wrap_u8, UInt8.toNat_ofNat']; omega
theorem Aqh {α : Type} {n i : Nat} {a : α} (h : i < n) : (List.replicate n a)[i]? = some a := by simp [h]
section
variable {a b c : Nat}
theorem AiK : (a : Int) * (b : Int) = ((a * b : Nat) : Int) := Aa rfl
theorem AkL (h : b ≤ a) : (a : Int) - (b : Int) = ((a - b : Nat) : Int) := by omega
theorem Ak9 : (a : Int) / (b : Int) = ((a / b : Nat) : Int) := Aa rfl
theorem AkX : (a : Int) % (b : Int) = ((a % b : Nat) : Int) := Aa rfl
variable {t : TypeId} {k2 : IntKind}
theorem Aqy (h1 : b ≤ 63) (h2 : a * 2 ^ b ≤ 9223372036854775807) : H9 t .shl (.int .i64 (a : Int)) (.int k2 (b : Int)) = some (.int .i64 ((a * 2 ^ b : Nat) : Int)) := by
 have e : (a : Int) * 2 ^ ((b : Int).toNat) = ((a * 2 ^ b : Nat) : Int) := by rw [Int.toNat_natCast, Int.natCast_mul, Int.natCast_pow]; rfl
 rw [Asm (by omega) (by omega) (by rw [e]; omega) (by rw [e]; omega), e]
theorem Ao6 (h1 : b ≤ 63) : H9 t .shr (.int .i64 (a : Int)) (.int k2 (b : Int)) = some (.int .i64 ((a / 2 ^ b : Nat) : Int)) := by
 have e : (a : Int) / 2 ^ ((b : Int).toNat) = ((a / 2 ^ b : Nat) : Int) := by rw [Int.toNat_natCast, Int.natCast_ediv, Int.natCast_pow]; rfl
 rw [ArT (by omega) (by omega) (by omega), e]
variable {k : IntKind}
theorem Aqj (h : b ≠ 0) : H9 t .rem (.int k (a : Int)) (.int k (b : Int)) = some (.int k ((a % b : Nat) : Int)) := by rw [Ar2 (by omega) (by omega), Int.natCast_emod]
theorem Aqu (h : b ≠ 0) (h2 : a ≤ 9223372036854775807) : H9 t .quo (.int .i64 (a : Int)) (.int .i64 (b : Int)) = some (.int .i64 ((a / b : Nat) : Int)) := by rw [ArX (by omega) (by omega) (by omega), Int.natCast_ediv]
end
theorem Aq.toPureV {P : Program} {f : FuncId} {args : List TV} {R : TV → Prop} (h : Aq P f args [] fun x H' => Be (frz H' x) R) : Et P f args R :=
 Aq.toPure (h.mono fun x H' hx => by
  cases hf : frz H' x with
  | none => rw [hf] at hx; exact hx
  | some y => rw [hf] at hx; exact hx)
abbrev mv_ (d s : Nat) : VO := ⟨some d, .p (.mov (.t s)), none⟩
abbrev po_ (d : Nat) (p : POp) : VO := ⟨some d, .p p, none⟩
abbrev so_ (d : Nat) (q : SOp) : VO := ⟨some d, .s q, none⟩
abbrev ci_ (n : Nat) : Opd := .c (.int .i64 (n : Int))
theorem DN {P : Program} {f : FuncId} {fn : Func} {vc : Af} {vr : List VR} (n : Nat) (hf : P.funcs[f]? = some fn) (ht : fn.body.bind (trC P fn.ntmps) = some (er vc)) (hr : trR P fn.results.toList = some vr) (hn : fn.ntmps = n) :
  ∀ ⦃args : List TV⦄ ⦃H : List Ob⦄ ⦃R : TV → List Ob → Prop⦄, args.length ≤ n → vwp P vc (Zq vr R) (AbG 0 args) H → Aq P f args H R := fun _ _ _ h1 h2 => AhB hf ht hr (hn ▸ h1) h2
theorem Ac {c c' : Af} (h : c = c') : ∀ (P : Program) (Q : VEx → Env → List Ob → Prop) (e : Env) (H : List Ob), vwp P c Q e H = vwp P c' Q e H := fun _ _ _ _ => by rw [h]
theorem Ae {α : Type} : (∀ {l : List α} {i : Nat} {a : α}, (l.set i a).length = l.length) ∧ (∀ {l m : List α}, (l ++ m).length = l.length + m.length) ∧ (∀ {a : α} {l : List α}, (a :: l).length = l.length + 1) ∧ ([] : List α).length = 0 := ⟨List.length_set, List.length_append, List.length_cons, List.length_nil⟩
theorem Aq.toFreshV {P : Program} {f : FuncId} {args : List TV} {R : TV → Prop} (h : Aq P f args [] fun x H' => Be (frs H' x) R) : TB P f args R :=
 Aq.toFresh (h.mono fun x H' hx => by
  cases hf : frs H' x with
  | none => rw [hf] at hx; exact hx
  | some y => rw [hf] at hx; exact hx)
theorem Aji {α : Type} {l : List α} {n : Nat} (h : l.length ≤ n) : l.take n = l := List.take_of_length_le h
theorem A2h {α : Type} {c : Prop} [Decidable c] {a b : α} (h : c) : (if c then a else b) = a := if_pos h
theorem ArP {α : Type} {c : Prop} [Decidable c] {a b : α} (h : ¬ c) : (if c then a else b) = b := if_neg h
theorem AdD {α : Type} {l : List α} {n : Nat} (h : n ≤ l.length) : (l.take n).length = n := by simp [h]
theorem Abt {α : Type} {l : List α} {i : Nat} : (l.drop i).take (l.length - i) = l.drop i := List.take_of_length_le (by simp)
theorem Alh {a b : Nat} : a + b - a = b := Nat.add_sub_cancel_left a b
theorem Ajy {α : Type} {l m : List α} : (l ++ m).take l.length = l := List.take_left
theorem Ajc {α : Type} {l m : List α} : (l ++ m).drop l.length = m := List.drop_left
theorem Ai4 {a b : Nat} : a + b - b = a := Nat.add_sub_cancel a b
def Ah := (And.intro (And.intro (And.intro (And.intro (And.intro (And.intro (And.intro @Ajy @Ajc) (And.intro @Alh @Abt)) (And.intro (And.intro @AdD @List.length_drop.{0}) (And.intro @A2h @ArP))) (And.intro (And.intro (And.intro @Aji @Ai4) (And.intro @Nat.zero_le @AoJ)) (And.intro (And.intro @List.nil_append.{0} @List.length_nil.{0}) (And.intro @List.length_cons.{0} @List.cons_append.{0})))) (And.intro (And.intro (And.intro (And.intro @List.getElem?_cons_zero.{0} @List.getElem?_cons_succ.{0}) (And.intro @List.set_cons_zero.{0} @List.set_cons_succ.{0})) (And.intro (And.intro @List.map_cons.{0,0} @List.map_nil.{0,0}) (And.intro @Aki @AjN))) (And.intro (And.intro (And.intro @true_and @and_true) (And.intro @List.take_zero.{0} @List.take_succ_cons.{0})) (And.intro (And.intro @List.drop_succ_cons.{0} @List.take_nil.{0}) (And.intro @List.drop_nil.{0} @Nat.zero_add))))) (And.intro (And.intro (And.intro (And.intro (And.intro @A1V @Arz) (And.intro @Asj @Asa)) (And.intro (And.intro @Ar0 @ArD) (And.intro @A14 @A2z))) (And.intro (And.intro (And.intro @Asi @Arw) (And.intro @A3D @Aqj)) (And.intro (And.intro @Aqu @AoP) (And.intro @Agw @Ag2)))) (And.intro (And.intro (And.intro (And.intro @Af4 @AhZ) (And.intro @Afx @AgC)) (And.intro (And.intro @AgS @AhD) (And.intro @AhK @AfV))) (And.intro (And.intro (And.intro @Bool.false_xor @Bool.true_xor) (And.intro @Arq @AsL)) (And.intro (And.intro @AsE @decide_true) (And.intro @decide_false @Bool.not_true)))))) (And.intro (And.intro (And.intro (And.intro (And.intro (And.intro @Bool.not_false @not_true_eq_false) (And.intro @not_false_eq_true @Bool.false_eq_true)) (And.intro (And.intro @Bool.true_eq_false @Option.bind_some.{0,0}) (And.intro @Option.map_some.{0,0} @Bool.and_self))) (And.intro (And.intro (And.intro @and_self @Nat.sub_zero) (And.intro @Nat.mul_one @List.length_map.{0,0})) (And.intro (And.intro @Int.toNat_natCast @List.getElem?_map.{0,0}) (And.intro @Int.natCast_nonneg @List.length_append.{0})))) (And.intro (And.intro (And.intro (And.intro @List.drop_zero.{0} @Afp) (And.intro @AfI @Als)) (And.intro (And.intro @Akk @AkY) (And.intro @Anj @AnF))) (And.intro (And.intro (And.intro @AlX @Amn) (And.intro @List.replicate_zero.{0} @List.take_length.{0})) (And.intro (And.intro @List.length_set.{0} @List.length_replicate.{0}) (And.intro @Apg @Fv))))) (And.intro (And.intro (And.intro (And.intro @Aqx @List.set_set.{0}) (And.intro @List.getElem?_nil.{0} @Aqh)) (And.intro (And.intro @AiK @AkL) (And.intro @Ak9 @AkX))) (And.intro @Aqy @Ao6))))
end Go.Proofs.YtingoaihnlhiaaaDoor


namespace Go.Proofs.YtingoaihnlhiaaaDoor
open Go.RowKit Go.WideShapes Go.ChangeShapes
variable [A7]
set_option linter.unusedSectionVars false
set_option linter.unusedVariables false
set_option linter.unusedSimpArgs false
set_option autoImplicit false

/-- All blocks that are there stay aS they are. -/
def came (w : World) : Ctx := ⟨fun _ _ => none, [], fun b => b < w.heap.size⟩
/-- All data of a type have a reading of this form. -/
def IV (P : Program) (t : TypeId) {α : Type} (f : α → TV) (ok : α → Prop) : Prop :=
 ∀ {H : Type} (enc : TypeId × Value → H) (w : World) (fuel : Nat) (cs : List Value) (d : DataW H) (ps : List MemPlace),
  DataW.trod enc P w 0 (fun _ => true) true fuel t cs = some (d, ps) → (d.weights P t).all (· ≤ reachBytes) = true → ∃ a, Aj (came w) w (f a) cs ∧ ok a

theorem AbQ {α β : Type} {f : α → Option β} : ∀ {l : List α} {xs : List β}, l.mapM f = some xs → xs.length = l.length ∧ ∀ (i : Nat) a, l[i]? = some a → ∃ x, xs[i]? = some x ∧ f a = some x
 | [], xs, h => by simp at h; subst h; simp
 | a :: l, xs, h => by
  rw [List.mapM_cons] at h
  cases hf : f a with
  | none => rw [hf] at h; cases h
  | some y =>
   rw [hf] at h
   cases hl : l.mapM f with
   | none => rw [hl] at h; cases h
   | some ys =>
    rw [hl] at h
    have e : xs = y :: ys := by simpa using h.symm
    subst e
    obtain ⟨h1, h2⟩ := AbQ hl
    refine ⟨by simp [h1], fun i b hb => ?_⟩
    cases i with
    | zero => simp at hb; subst hb; exact ⟨y, by simp, hf⟩
    | succ i => simpa using h2 i b (by simpa using hb)
theorem RJ {β : Type} {f : Nat → Option β} {n : Nat} {xs : List β} (h : (List.range n).mapM f = some xs) : xs.length = n ∧ ∀ i, i < n → ∃ x, xs[i]? = some x ∧ f i = some x := by
 obtain ⟨h1, h2⟩ := AbQ h
 exact ⟨by simpa using h1, fun i hi => h2 i i (by simp [hi])⟩

section
variable {P : Program} {t e : TypeId}
theorem YU {H : Type} {enc : TypeId × Value → H} {w : World} {fuel : Nat} {cs : List Value} {x : DataW H × List MemPlace} (h : DataW.trod enc P w 0 (fun _ => true) true fuel t cs = some x) : ∃ n, fuel = n + 1 := by
 cases fuel with
 | zero => simp [DataW.trod] at h
 | succ n => exact ⟨n, rfl⟩

theorem AaQ {k : IntKind} (ht : P.underlying t = some (.int k)) : IV P t (fun n => .val (.int k n)) (fun n => (Lit.int k n).wf = true) := by
 intro H enc w fuel cs d ps h _
 obtain ⟨n, rfl⟩ := YU h
 unfold DataW.trod at h; rw [ht] at h
 split at h <;> rename_i h1 <;> try (simp at h1; done)
 all_goals try (cases h; done)
 all_goals try (simp only [Option.some.injEq, TypeDesc.int.injEq] at h1)
 all_goals first
  | (subst h1; split at h; (rename_i hc; obtain ⟨rfl, hw⟩ := hc; cases h; exact ⟨_, by rw [Aj]; exact ⟨rfl, rfl⟩, hw⟩); cases h)
  | (simp at h1; done)
  | (simp at h; done)
end

theorem JO {H : Type} {P : Program} {e : TypeId} {d : DataW H} {n : Nat} (hn : n ∈ d.weights P e) : ∀ {ds : List (DataW H)}, d ∈ ds → n ∈ DataW.weightsAll P e ds
 | d0 :: ds, h => by
  simp only [DataW.weightsAll, List.mem_append]
  rcases List.mem_cons.1 h with rfl | h
  ·exact Or.inl hn
  ·exact Or.inr (JO hn h)
theorem Gw {l m : List Nat} (h : m.all (· ≤ reachBytes) = true) (hs : ∀ n ∈ l, n ∈ m) : l.all (· ≤ reachBytes) = true := List.all_eq_true.2 fun n hn => List.all_eq_true.1 h n (hs n hn)

theorem Al0 (a : Addr) (i j : Nat) : (a.add i).add j = a.add (i + j) := by
 unfold Addr.add
 by_cases h1 : i = 0 <;> by_cases h2 : j = 0 <;> simp [h1, h2, Nat.add_assoc]
theorem Alm (b off i : Nat) : (⟨b, off, none⟩ : Addr).add i = ⟨b, off + i, none⟩ := by
 unfold Addr.add
 by_cases h1 : i = 0 <;> simp [h1]
theorem Ae2 {w : World} {a : Addr} {n : Nat} {us : List Value} (h : w.cells? 0 a n = some us) : us.length = n ∧ ∀ i, i < n → ∃ u, us[i]? = some u ∧ w.cell? (a.add i) = some u := by
 unfold World.cells? at h
 rw [if_pos (Nat.zero_le _)] at h
 exact RJ h

/-- Elements that lie one behind the other. -/
theorem AbP {α : Type} {f : α → TV} {ok : α → Prop} {k : Nat} (hw : ∀ a, ok a → AB (f a) = k) {w : World} {b off : Nat} : ∀ (n i0 : Nat), (∀ i, i < n → ∃ us a, Aj (came w) w (f a) us ∧ ok a ∧ us.length = k ∧ CE w b (off + (i0 + i) * k) us) →
  ∃ (l : List α) (us : List Value), l.length = n ∧ (∀ a ∈ l, ok a) ∧ Ak (came w) w (l.map f) us ∧ us.length = n * k ∧ CE w b (off + i0 * k) us
 | 0, i0, _ => ⟨[], [], rfl, by simp, by rw [List.map_nil, Ak], by simp, fun j u h => by simp at h⟩
 | n + 1, i0, h => by
  obtain ⟨us, a, h1, h2, h3, h4⟩ := h 0 (by omega)
  obtain ⟨l, vs, k1, k2, k3, k4, k5⟩ := AbP hw n (i0 + 1) (fun i hi => by
   obtain ⟨us, a, h1, h2, h3, h4⟩ := h (i + 1) (by omega)
   exact ⟨us, a, h1, h2, h3, by rw [show i0 + 1 + i = i0 + (i + 1) from by omega]; exact h4⟩)
  refine ⟨a :: l, us ++ vs, by simp [k1], fun c hc => ?_, ?_, ?_, ?_⟩
  ·rcases List.mem_cons.1 hc with rfl | hc
   ·exact h2
   ·exact k2 c hc
  ·rw [List.map_cons, Ak]; exact ⟨us, vs, rfl, h1, k3⟩
  ·rw [List.length_append, h3, k4, Nat.succ_mul, Nat.add_comm]
  ·intro j u hj
   by_cases hjk : j < k
   ·rw [List.getElem?_append_left (by omega)] at hj
    have := h4 j u hj
    rwa [Nat.add_zero] at this
   ·rw [List.getElem?_append_right (by omega), h3] at hj
    have := k5 (j - k) u hj
    rw [show off + (i0 + 1) * k + (j - k) = off + i0 * k + j from by rw [Nat.succ_mul]; omega] at this
    exact this

section
variable {P : Program} {t e : TypeId} {α : Type} {f : α → TV} {ok : α → Prop} {k B : Nat}
theorem Qk (ht : P.underlying t = some (.slice e)) (hk : P.cellsOf e = k) (hB : P.bytesOf e = B) (hc : IV P e f ok) (hw : ∀ a, ok a → AB (f a) = k) (h0 : k ≠ 0) :
  IV P t (fun l : List α => .sl k (l.map f)) (fun l => (∀ a ∈ l, ok a) ∧ l.length * B ≤ 140737488351232 ∧ l.length ≤ 9223372036854775807) := by
 intro H enc w fuel cs d ps h hwt
 obtain ⟨n, rfl⟩ := YU h
 unfold DataW.trod at h; rw [ht] at h
 split at h <;> rename_i h1 <;> try (simp at h1; done)
 all_goals first
  | (simp at h; done)
  | skip
 ·cases h
  refine ⟨[], ?_, by simp, by simp, by simp⟩
  rw [Aj]; exact ⟨by simp, .inl ⟨rfl, none, 0, rfl, by omega⟩⟩
 ·rename_i a len cap
  simp only [Option.some.injEq, TypeDesc.slice.injEq] at h1
  subst h1
  split at h
  ·rename_i hcond
   obtain ⟨-, hlc, hcm⟩ := hcond
   rw [Option.bind_eq_some_iff] at h
   obtain ⟨elems, he, h⟩ := h
   rw [if_pos rfl, Option.map_eq_some_iff] at h
   obtain ⟨rest, hr, h⟩ := h
   simp only [Prod.mk.injEq] at h
   obtain ⟨rfl, rfl⟩ := h
   obtain ⟨e1, e2⟩ := RJ he
   obtain ⟨r1, _⟩ := RJ hr
   unfold maxLen at hcm
   simp only [DataW.weights, ht, List.all_cons, Bool.and_eq_true, decide_eq_true_eq, reachBytes, List.length_map, e1, r1, hB] at hwt
   have hcapB : cap * B ≤ 140737488351232 := by have := of_decide_eq_true hwt.1; rwa [Nat.add_sub_cancel' hlc] at this
   have hlen : len * B ≤ 140737488351232 := Nat.le_trans (Nat.mul_le_mul_right _ hlc) hcapB
   have hwe : (DataW.weightsAll P e (elems.map (·.1))).all (· ≤ reachBytes) = true := Gw (m := DataW.weightsAll P e (elems.map (·.1)) ++ DataW.weightsAll P e (rest.map (·.1))) hwt.2 (fun n hn => List.mem_append_left _ hn)
   obtain ⟨b, off, spot⟩ := a
   have key : ∀ i, i < len → ∃ us a, Aj (came w) w (f a) us ∧ ok a ∧ us.length = k ∧ (∀ j u, us[j]? = some u → w.cell? ((⟨b, off, spot⟩ : Addr).add (i * k + j)) = some u) := by
    intro i hi
    obtain ⟨x, hx, hxe⟩ := e2 i hi
    rw [Option.bind_eq_some_iff] at hxe
    obtain ⟨us, hus, htr⟩ := hxe
    rw [hk] at hus
    obtain ⟨c1, c2⟩ := Ae2 hus
    obtain ⟨a, ha, hok⟩ := hc enc w n us x.1 x.2 htr (Gw hwe fun m hm => JO hm (List.mem_map.2 ⟨x, List.mem_of_getElem? hx, rfl⟩))
    refine ⟨us, a, ha, hok, c1, fun j u hj => ?_⟩
    have hjk : j < k := by rw [← c1]; exact (List.getElem?_eq_some_iff.1 hj).1
    obtain ⟨u', hu', hcu⟩ := c2 j hjk
    rw [hj] at hu'; cases hu'
    rw [Al0] at hcu
    exact hcu
   by_cases hl0 : len = 0
   ·subst hl0
    refine ⟨[], ?_, by simp, by simp, by simp⟩
    rw [Aj]; exact ⟨by simp, .inl ⟨rfl, _, cap, rfl, hcm⟩⟩
   ·have hsp : spot = none := by
     obtain ⟨us, a, _, _, c1, c2⟩ := key 0 (by omega)
     have hu : us[0]? = some us[0] := List.getElem?_eq_getElem (by omega)
     have := c2 0 _ hu
     simpa [Addr.add] using World.cell?_spot this
    subst hsp
    obtain ⟨l, us, l1, l2, l3, l4, l5⟩ := AbP (f := f) (ok := ok) hw (w := w) (b := b) (off := off) len 0 (fun i hi => by
     obtain ⟨us, a, h1, h2, h3, h4⟩ := key i hi
     refine ⟨us, a, h1, h2, h3, fun j u hj => ?_⟩
     have := h4 j u hj
     rw [Alm] at this
     rw [Nat.zero_add, Nat.add_assoc]; exact this)
    refine ⟨l, ?_, l2, by rw [l1]; exact hlen, by omega⟩
    rw [Aj]
    refine ⟨fun x hx => ?_, .inr ⟨b, off, cap, us, by rw [List.length_map, l1], by rw [List.length_map, l1]; exact hlc, hcm, ?_, l3, by simpa using l5⟩⟩
    ·obtain ⟨a, ha, rfl⟩ := List.mem_map.1 hx; exact hw a (l2 a ha)
    ·have hus : 0 < us.length := by rw [l4]; exact Nat.mul_pos (by omega) (by omega)
     exact Ams (l5 0 us[0] (List.getElem?_eq_getElem hus))
  ·cases h
end
section
variable {P : Program} {t e : TypeId} {α : Type} {f : α → TV} {ok : α → Prop} {k : Nat}
theorem Ir {β : Type} {g : β → TV} {ok' : β → Prop} (h : IV P t f ok) (hm : ∀ a, ok a → ∃ b, f a = g b ∧ ok' b) : IV P t g ok' := by
 intro H enc w fuel cs d ps h1 h2
 obtain ⟨a, h3, h4⟩ := h enc w fuel cs d ps h1 h2
 obtain ⟨b, h5, h6⟩ := hm a h4
 exact ⟨b, by rw [← h5]; exact h3, h6⟩
theorem Ah6 (ht : P.underlying t = some (.int .u8)) : IV P t by8 (fun _ => True) :=
 Ir (AaQ ht) fun n h => by
  have := bounds_u8 h
  refine ⟨UInt8.ofNat n.toNat, ?_, trivial⟩
  rw [by8, UInt8.toNat_ofNat', Nat.mod_eq_of_lt (by omega)]
  congr 2; omega
theorem Afh (ht : P.underlying t = some (.int .i64)) : IV P t i64 (fun n => -9223372036854775808 ≤ n ∧ n ≤ 9223372036854775807) :=
 Ir (AaQ ht) fun n h => ⟨n, rfl, by have := bounds_i64 h; omega⟩
theorem Anb {H : Type} {P : Program} {e : TypeId} {parts : List (DataW H)} (h : (DataW.weightsAll P e parts).all (· ≤ reachBytes) = true) {d : DataW H} (hd : d ∈ parts) : (d.weights P e).all (· ≤ reachBytes) = true :=
 Gw h fun n hn => JO hn hd
/-- Elements cut out of a row. -/
theorem Aep {w : World} (hw : ∀ a, ok a → AB (f a) = k) : ∀ (n i0 : Nat) (cs : List Value), cs.length = n * k → (∀ i, i < n → ∃ a, Aj (came w) w (f a) ((cs.drop (i * k)).take k) ∧ ok a) →
  ∃ l : List α, l.length = n ∧ (∀ a ∈ l, ok a) ∧ Ak (came w) w (l.map f) cs
 | 0, i0, cs, hl, _ => ⟨[], rfl, by simp, by rw [List.map_nil, Ak]; exact List.length_eq_zero_iff.1 (by simpa using hl)⟩
 | n + 1, i0, cs, hl, h => by
  obtain ⟨a, h1, h2⟩ := h 0 (by omega)
  rw [Nat.zero_mul, List.drop_zero] at h1
  rw [Nat.succ_mul] at hl
  obtain ⟨l, k1, k2, k3⟩ := Aep hw n 0 (cs.drop k) (by rw [List.length_drop]; omega) (fun i hi => by
   obtain ⟨a, h1, h2⟩ := h (i + 1) (by omega)
   exact ⟨a, by rw [List.drop_drop]; rw [Nat.succ_mul, Nat.add_comm] at h1; exact h1, h2⟩)
  refine ⟨a :: l, by simp [k1], fun c hc => ?_, ?_⟩
  ·rcases List.mem_cons.1 hc with rfl | hc
   ·exact h2
   ·exact k2 c hc
  ·rw [List.map_cons, Ak]
   exact ⟨cs.take k, cs.drop k, (List.take_append_drop k cs).symm, h1, k3⟩
theorem AbS {n : Nat} (ht : P.underlying t = some (.array n e)) (hk : P.cellsOf e = k) (hn : P.cellsOf t = n * k) (hc : IV P e f ok) (hw : ∀ a, ok a → AB (f a) = k) :
  IV P t (fun l : List α => .arr n k (l.map f)) (fun l => l.length = n ∧ ∀ a ∈ l, ok a) := by
 intro H enc w fuel cs d ps h hwt
 obtain ⟨m, rfl⟩ := YU h
 unfold DataW.trod at h; rw [ht] at h
 split at h <;> rename_i h1 <;> try (simp at h1; done)
 all_goals first
  | (simp at h; done)
  | exact ((‹∀ (n_1 : Nat) (e_1 : TypeId), some (TypeDesc.array n e) = some (TypeDesc.array n_1 e_1) → False› : ∀ (n_1 : Nat) (e_1 : TypeId), some (TypeDesc.array n e) = some (TypeDesc.array n_1 e_1) → False) n e rfl).elim
  | skip
 cases h1
 split at h
 ·rename_i hlen
  rw [Option.map_eq_some_iff] at h
  obtain ⟨xs, hx, h⟩ := h
  simp only [Prod.mk.injEq] at h
  obtain ⟨rfl, rfl⟩ := h
  obtain ⟨e1, e2⟩ := RJ hx
  simp only [DataW.weights, ht] at hwt
  rw [hn] at hlen
  obtain ⟨l, l1, l2, l3⟩ := Aep (f := f) (ok := ok) (w := w) hw _ 0 _ hlen (fun i hi => by
   obtain ⟨x, hx, hxe⟩ := e2 i hi
   rw [hk] at hxe
   obtain ⟨a, ha, hok⟩ := hc enc w m _ x.1 x.2 hxe (Anb hwt (List.mem_map.2 ⟨x, List.mem_of_getElem? hx, rfl⟩))
   exact ⟨a, ha, hok⟩)
  refine ⟨l, ?_, l1, l2⟩
  rw [Aj]
  refine ⟨by rw [List.length_map, l1], fun x hx => ?_, l3⟩
  obtain ⟨a, ha, rfl⟩ := List.mem_map.1 hx; exact hw a (l2 a ha)
 ·cases h
end

def AbH (P : Program) (off : Nat) (fs : List Field) {α : Type} (f : α → List TV) (ok : α → Prop) : Prop :=
 ∀ {H : Type} (enc : TypeId × Value → H) (w : World) (fuel : Nat) (cs : List Value) (xs : List (DataW H × List MemPlace)),
  (fs.mapM fun fd => DataW.trod enc P w 0 (fun _ => true) true fuel fd.type ((cs.drop fd.offset).take (P.cellsOf fd.type))) = some xs → (DataW.weightsEach P (fs.map (·.type)) (xs.map (·.1))).all (· ≤ reachBytes) = true →
  cs.length = off + (fs.map fun fd => P.cellsOf fd.type).sum → ∃ a, Ak (came w) w (f a) (cs.drop off) ∧ ok a
theorem AdY {P : Program} {off : Nat} : AbH P off [] (fun _ : Unit => []) (fun _ => True) := by
 intro H enc w fuel cs xs _ _ hl
 refine ⟨(), ?_, trivial⟩
 rw [Ak]; exact List.drop_eq_nil_of_le (by simp at hl; omega)
theorem Q8 {P : Program} {off n : Nat} {fd : Field} {fs : List Field} {α β : Type} {f : α → TV} {ok : α → Prop} {g : β → List TV} {ok' : β → Prop} (h0 : fd.offset = off) (hn : P.cellsOf fd.type = n) (hc : IV P fd.type f ok) (hr : AbH P (off + n) fs g ok') :
  AbH P off (fd :: fs) (fun x : α × β => f x.1 :: g x.2) (fun x => ok x.1 ∧ ok' x.2) := by
 intro H enc w fuel cs xs hx hw hl
 rw [List.mapM_cons] at hx
 cases h1 : DataW.trod enc P w 0 (fun _ => true) true fuel fd.type ((cs.drop fd.offset).take (P.cellsOf fd.type)) with
 | none => rw [h1] at hx; cases hx
 | some y =>
  rw [h1] at hx
  cases h2 : (fs.mapM fun fd => DataW.trod enc P w 0 (fun _ => true) true fuel fd.type ((cs.drop fd.offset).take (P.cellsOf fd.type))) with
  | none => rw [h2] at hx; cases hx
  | some ys =>
   rw [h2] at hx
   have e : xs = y :: ys := by simpa using hx.symm
   subst e
   simp only [List.map_cons, DataW.weightsEach] at hw
   obtain ⟨a, ha, hoka⟩ := hc enc w fuel _ y.1 y.2 h1 (Gw hw fun n hn => List.mem_append_left _ hn)
   obtain ⟨b, hb, hokb⟩ := hr enc w fuel cs ys h2 (Gw hw fun n hn => List.mem_append_right _ hn) (by simp [hn] at hl ⊢; omega)
   refine ⟨(a, b), ?_, hoka, hokb⟩
   rw [Ak]
   refine ⟨(cs.drop off).take n, cs.drop (off + n), ?_, by rw [← h0, ← hn]; exact ha, hb⟩
   rw [← List.drop_drop, List.take_append_drop]
theorem AbC {P : Program} {t : TypeId} {fs : Array Field} {α : Type} {f : α → List TV} {ok : α → Prop} (ht : P.underlying t = some (.struct fs)) (hn : P.cellsOf t = (fs.toList.map fun fd => P.cellsOf fd.type).sum) (hc : AbH P 0 fs.toList f ok) :
  IV P t (fun a => .agg (f a)) ok := by
 intro H enc w fuel cs d ps h hwt
 obtain ⟨m, rfl⟩ := YU h
 unfold DataW.trod at h; rw [ht] at h
 split at h <;> rename_i h1 <;> try (simp at h1; done)
 all_goals first
  | (simp at h; done)
  | exact ((‹∀ (fs_1 : Array Field), some (TypeDesc.struct fs) = some (TypeDesc.struct fs_1) → False› : ∀ (fs_1 : Array Field), some (TypeDesc.struct fs) = some (TypeDesc.struct fs_1) → False) fs rfl).elim
  | skip
 cases h1
 split at h
 ·rename_i hlen
  rw [Option.map_eq_some_iff] at h
  obtain ⟨xs, hx, h⟩ := h
  simp only [Prod.mk.injEq] at h
  obtain ⟨rfl, rfl⟩ := h
  simp only [DataW.weights, ht] at hwt
  obtain ⟨a, ha, hok⟩ := hc enc w m _ xs hx hwt (by rw [hlen, hn, Nat.zero_add])
  exact ⟨a, by rw [Aj]; rw [List.drop_zero] at ha; exact ha, hok⟩
 ·cases h

def VA (P : Program) (ts : List TypeId) {α : Type} (f : α → List TV) (ok : α → Prop) : Prop :=
 ∀ {H : Type} (enc : TypeId × Value → H) (w : World) (vs : List Value) (ds : List (DataW H)) (ps : List MemPlace),
  DataW.TrodAll enc P w 0 (fun _ => true) true ts vs ds ps → (∀ (j : Nat) t v, ts[j]? = some t → vs[j]? = some v → ∃ base, Value.okWide P w .any base t v) → (DataW.weightsEach P ts ds).all (· ≤ reachBytes) = true → ∃ a, Ba (came w) w (f a) vs ∧ ok a
theorem Aby {P : Program} : VA P [] (fun _ : Unit => []) (fun _ => True) := by
 intro H enc w vs ds ps h _ _
 obtain ⟨rfl, rfl, rfl⟩ := trodAll_nil h
 exact ⟨(), by rw [Ba], trivial⟩
/-- A value of a type is what its cells make of it. -/
def Agn (P : Program) (t : TypeId) (b : Bool) : Prop := ∀ w base v, Value.okWide P w .any base t v → if b then ∃ cs, v = .agg cs else v.cells = #[v]
theorem PY {P : Program} {t e : TypeId} (ht : P.underlying t = some (.slice e)) : Agn P t false := fun w _ v h => by obtain ⟨_, _, _, rfl⟩ := okWide_slice ht h; rfl
theorem Ahi {c : Ctx} {P : Program} {w : World} {t : TypeId} {v : Value} {x : TV} {b : Bool} (hf : Agn P t b) {base : Nat} (hv : Value.okWide P w .any base t v) (hx : Ya x = b) : v = mkV x v.cells.toList := by
 have h := hf w base v hv
 cases b with
 | true =>
  simp only [if_true] at h
  obtain ⟨cs, rfl⟩ := h
  rw [Aej hx]; simp [Value.cells]
 | false =>
  simp only [Bool.false_eq_true, if_false] at h
  rw [h]
  exact (YW hx).symm
theorem JM {P : Program} {t : TypeId} {ts : List TypeId} {α β : Type} {f : α → TV} {ok : α → Prop} {g : β → List TV} {ok' : β → Prop} {b : Bool} (hc : IV P t f ok) (hf : Agn P t b) (hm : ∀ a, Ya (f a) = b) (hr : VA P ts g ok') :
  VA P (t :: ts) (fun x : α × β => f x.1 :: g x.2) (fun x => ok x.1 ∧ ok' x.2) := by
 intro H enc w vs ds ps h hv hw
 obtain ⟨v, vs', d, ds', p, q, rfl, rfl, rfl, h0, r0⟩ := trodAll_cons h
 simp only [DataW.weightsEach] at hw
 obtain ⟨fuel, hfu⟩ := h0
 obtain ⟨a, ha, hoka⟩ := hc enc w fuel _ d p hfu (Gw hw fun n hn => List.mem_append_left _ hn)
 obtain ⟨b, hb, hokb⟩ := hr enc w vs' ds' q r0 (fun j t v h1 h2 => hv (j + 1) t v (by simpa using h1) (by simpa using h2)) (Gw hw fun n hn => List.mem_append_right _ hn)
 refine ⟨(a, b), Ba.cons.2 ⟨v, vs', rfl, .inr (.inr ⟨v.cells.toList, ha, Ahi (c := came w) hf (hv 0 t v rfl rfl).choose_spec (hm a)⟩), hb⟩, hoka, hokb⟩

/-- All that came in reads aS it did. -/
theorem Vl {H : Type} {enc : TypeId × Value → H} {P : Program} (hl : laidOutB P = true) {W W' : World} (hb : Below W.heap.size W W') : ∀ {ts : List TypeId} {vs : List Value} {ds : List (DataW H)} {ps : List MemPlace}, (ts.all fun t => P.readableRec t && decide (t < P.types.size)) = true →
  DataW.TrodAll enc P W 0 (fun _ => true) true ts vs ds ps → DataW.TrodAll enc P W' 0 (fun b => decide (b < W.heap.size)) true ts vs ds ps
 | [], vs, ds, ps, _, h => by
  obtain ⟨rfl, rfl, rfl⟩ := trodAll_nil h
  exact trodAll_mk0
 | t :: ts, vs, ds, ps, hr, h => by
  obtain ⟨v, vs', d, ds', p, q, rfl, rfl, rfl, h0, r0⟩ := trodAll_cons h
  simp only [List.all_cons, Bool.and_eq_true, decide_eq_true_eq] at hr
  refine trodAll_cons_mk (Below.trod hl hr.1.1 hr.1.2 h0 hb ?_) (Vl hl hb (by simpa using hr.2) r0)
  obtain ⟨m, hm⟩ := h0
  exact DataW.trod_lt m _ _ _ hm

theorem Pz.below {F F' : Nat → Prop} {w w' : World} (h : Pz F w F' w') : Below w.heap.size w w' := ⟨h.os, h.tape, h.output, h.size, fun k hk => h.same k hk⟩
/-- THE WALK OF A STATEMENT, out of what the machine of values says of it. -/
theorem Aqi {P : Program} {f : FuncId} {ts : List TypeId} {α : Type} {g : α → List TV} {ok : α → Prop} (hc : VA P ts g ok) (hlaw : ∀ a, ok a → Et P f (g a) (fun x => x = tb true)) {H : Type} {enc : TypeId × Value → H} {w : World} {args : Array Value} {ds : List (DataW H)} {ps : List MemPlace}
  (h : DataW.TrodAll enc P w 0 (fun _ => true) true ts args.toList ds ps) (hv : ∀ (j : Nat) t v, ts[j]? = some t → args.toList[j]? = some v → ∃ base, Value.okWide P w .any base t v) (hw : (DataW.weightsEach P ts ds).all (· ≤ reachBytes) = true) (hg : Jz (fun b => b < w.heap.size) w) :
  Calls P f args w fun e w' => e = .returned (.bool true) ∧ Below w.heap.size w w' := by
 obtain ⟨a, ha, hok⟩ := hc enc w args.toList ds ps h hv hw
 have := hlaw a hok (fun _ _ => none) (fun b => b < w.heap.size) w args.toList ⟨fun b h => h, hg⟩ ha
 rw [Array.toArray_toList] at this
 refine this.mono ?_
 rintro e w' ⟨v, x, F', rfl, rfl, hx, hst⟩
 rw [Rep.val] at hx
 exact ⟨by rw [hx], hst.below⟩
end Go.Proofs.YtingoaihnlhiaaaDoor


namespace Go.Proofs.YtingoaihnlhiaaaDoor
open Go.RowKit
variable [A7]
set_option linter.unusedSectionVars false
set_option linter.unusedVariables false

theorem Afd {g : Nat} {x : GV} (h : TD g = some x) : (g, x) ∈ A7.l := by
 unfold TD at h
 obtain ⟨p, hp, rfl⟩ := Option.map_eq_some_iff.1 h
 have h1 := List.mem_of_find?_eq_some hp
 have h2 := List.find?_some hp
 have h3 : p.1 = g := by simpa using h2
 obtain ⟨a, b⟩ := p
 simp only at h3; subst h3; exact h1
section
omit [A7]
theorem AnG {P : Program} {w : World} {name : String} {g : Nat} {cs : Array Value} (hg : P.globalNamed name = some g) (h : w.var? P name = some cs) : ∃ t fr, w.heap[g]? = some (.cells cs t fr) := by
 unfold World.var? at h
 rw [hg, Option.bind_some] at h
 split at h
 ·rename_i c t fr hh; cases h; exact ⟨t, fr, hh⟩
 ·cases h
variable {P : Program} {w : World} {fuel : Nat} {cs : List Value}
end
end Go.Proofs.YtingoaihnlhiaaaDoor


namespace Go.Proofs.YtingoaihnlhiaaaDoor
open Go.RowKit
variable [A7]
set_option linter.unusedSectionVars false
set_option linter.unusedVariables false
set_option linter.unusedSimpArgs false

mutual
/-- With other numbers. -/
def shT (n : Nat) : TV → TV
 | .op id ver p => .op (id + n) ver p
 | .os k id ver p off m cp => .os k (id + n) ver p off m cp
 | .mp id ver => .mp (id + n) ver
 | .yl id ver => .yl (id + n) ver
 | .agg cs => .agg (shL n cs)
 | .tup cs => .tup (shL n cs)
 | .ifc t x => .ifc t (shT n x)
 | .fn f a b => .fn f (shL n a) (shL n b)
 | .val v => .val v
 | .any => .any
 | .sl k cs => .sl k cs
 | .fp x => .fp x
 | .arr m k cs => .arr m k cs
def shL (n : Nat) : List TV → List TV
 | [] => []
 | x :: xs => shT n x :: shL n xs
end
def AeJ (n : Nat) : List (List UInt8 × TV) → List (List UInt8 × TV)
 | [] => []
 | e :: es => (e.1, shT n e.2) :: AeJ n es
def AlI (n : Nat) : List (Nat × List UInt8 × TV) → List (Nat × List UInt8 × TV)
 | [] => []
 | z :: zs => (z.1, z.2.1, shT n z.2.2) :: AlI n zs
def AgO (n : Nat) : List (Nat × TV) → List (Nat × TV)
 | [] => []
 | e :: es => (e.1, shT n e.2) :: AgO n es
def shO (n : Nat) : Ob → Ob
 | .obj v x => .obj v (shT n x)
 | .gone v => .gone v
 | .ice v m x => .ice v m (shT n x)
 | .fact i v t m => .fact (i + n) v t m
 | .lp st pend fn N e ps ca cb => .lp st pend fn N (AgO n e) ps ca cb
 | .mpo kk es => .mpo kk (AeJ n es)
 | .bld v t l => .bld v t l
 | .sit s pos => .sit s pos
 | .mpd kk zs cl => .mpd kk (AlI n zs) cl
 | .mit m sn cl => .mit (m + n) sn cl
theorem TP {n : Nat} {o : Ob} : (shO n o).ver = o.ver := by cases o <;> rfl
theorem VG {n : Nat} {o : Ob} : (shO n o).live = o.live := by cases o <;> rfl
theorem Aen {n : Nat} {x : TV} {us : List Value} : mkV (shT n x) us = mkV x us := by cases x <;> simp only [shT, mkV]
theorem Acz {n : Nat} : ∀ {e : List (Nat × TV)} {s : Nat}, get (AgO n e) s = shT n (get e s)
 | [], s => by rw [AgO, get, shT]
 | (k, x) :: e, s => by
  rw [AgO, get, get]
  by_cases h : k = s
  ·simp [h]
  ·simp only [h, if_false]; exact Acz
theorem AeL {n : Nat} : ∀ {zs : List (Nat × List UInt8 × TV)}, (AlI n zs).map (·.2) = AeJ n (zs.map (·.2))
 | [] => by rw [AlI, List.map_nil, AeJ]
 | z :: zs => by rw [AlI, List.map_cons, List.map_cons, AeJ, AeL]
theorem Abq {n : Nat} : ∀ {zs : List (Nat × List UInt8 × TV)}, (AlI n zs).map (·.1) = zs.map (·.1)
 | [] => by rw [AlI]
 | z :: zs => by rw [AlI, List.map_cons, List.map_cons, Abq]

structure Aac (c c' : Ctx) (n : Nat) : Prop where
 beta : ∀ id ver, c'.β (id + n) ver = c.β id ver
 has : ∀ id ver, c.has id ver → c'.has (id + n) ver
 keepF : ∀ b, c.F b → c'.F b
theorem Aac.bare {c c' : Ctx} {n : Nat} {w : World} (h : Aac c c' n) : Gf c.bare w c'.bare w := ⟨fun b hb => ⟨h.keepF b hb, rfl⟩, fun _ _ k => (Ctx.bare_has k).elim, fun _ _ => rfl⟩
mutual
theorem Aj.shift {c c' : Ctx} {w : World} {n : Nat} (h : Aac c c' n) : ∀ {x : TV} {us : List Value}, Aj c w x us → Aj c' w (shT n x) us
 | .val y, us, hr => by rw [shT]; rw [Aj] at hr ⊢; exact hr
 | .any, us, hr => by rw [shT]; rw [Aj] at hr ⊢; exact hr
 | .sl k cs, us, hr => by
  rw [shT]; rw [Aj] at hr ⊢
  obtain ⟨hk, hr⟩ := hr
  refine ⟨hk, ?_⟩
  rcases hr with hr | ⟨b, off, cap, vs, h1, h2, h3, h4, h5, h6⟩
  ·exact .inl hr
  ·exact .inr ⟨b, off, cap, vs, h1, h2, h3, h.keepF b h4, Ak.mono h.bare h5, h6⟩
 | .fp x, us, hr => by
  rw [shT]; rw [Aj] at hr ⊢
  obtain ⟨b, off, vs, h1, h4, h5, h6⟩ := hr
  exact ⟨b, off, vs, h1, h.keepF b h4, Aj.mono h.bare h5, h6⟩
 | .op id ver p, us, hr => by
  rw [shT]; rw [Aj] at hr ⊢
  exact ⟨h.has _ _ hr.1, by rw [h.beta]; exact hr.2⟩
 | .os k id ver p off m cp, us, hr => by
  rw [shT]; rw [Aj] at hr ⊢
  exact ⟨h.has _ _ hr.1, by rw [h.beta]; exact hr.2⟩
 | .agg cs, us, hr => by rw [shT]; rw [Aj] at hr ⊢; exact Ak.shift h hr
 | .arr m k cs, us, hr => by rw [shT]; rw [Aj] at hr ⊢; exact ⟨hr.1, hr.2.1, Ak.mono h.bare hr.2.2⟩
 | .tup cs, us, hr => by rw [Aj] at hr; exact hr.elim
 | .ifc t x, us, hr => by
  rw [shT]; rw [Aj] at hr ⊢
  obtain ⟨u, h1, vs, h2, h3⟩ := hr
  exact ⟨u, h1, vs, Aj.shift h h2, by rw [Aen]; exact h3⟩
 | .fn f a b, us, hr => by
  rw [shT]; rw [Aj] at hr ⊢
  obtain ⟨aS, bs, h1, h2, h3⟩ := hr
  exact ⟨aS, bs, h1, Ba.shift h h2, Ba.shift h h3⟩
 | .mp id ver, us, hr => by
  rw [shT]; rw [Aj] at hr ⊢
  exact ⟨h.has _ _ hr.1, by rw [h.beta]; exact hr.2⟩
 | .yl id ver, us, hr => by
  rw [shT]; rw [Aj] at hr ⊢
  exact ⟨h.has _ _ hr.1, by rw [h.beta]; exact hr.2⟩
theorem Ak.shift {c c' : Ctx} {w : World} {n : Nat} (h : Aac c c' n) : ∀ {xs : List TV} {us : List Value}, Ak c w xs us → Ak c' w (shL n xs) us
 | [], us, hr => by rw [shL]; rw [Ak] at hr ⊢; exact hr
 | x :: xs, us, hr => by
  rw [shL]; rw [Ak] at hr ⊢
  obtain ⟨a, b, h1, h2, h3⟩ := hr
  exact ⟨a, b, h1, Aj.shift h h2, Ak.shift h h3⟩
theorem Ba.shift {c c' : Ctx} {w : World} {n : Nat} (h : Aac c c' n) : ∀ {xs : List TV} {vs : List Value}, Ba c w xs vs → Ba c' w (shL n xs) vs
 | [], vs, hr => by rw [shL]; rw [Ba] at hr ⊢; exact hr
 | x :: xs, vs, hr => by
  rw [shL]; rw [Ba] at hr ⊢
  obtain ⟨u, us, h1, h2, h3⟩ := hr
  refine ⟨u, us, h1, ?_, Ba.shift h h3⟩
  rcases h2 with h2 | h2 | ⟨aS, h2, h4⟩
  ·exact .inl (by rw [h2, shT])
  ·exact .inr (.inl (by rw [h2, shT]))
  ·exact .inr (.inr ⟨aS, Aj.shift h h2, by rw [Aen]; exact h4⟩)
end
theorem Ada.shift {c c' : Ctx} {w : World} {n : Nat} (h : Aac c c' n) {x : TV} {v : Value} (hr : Ada c w x v) : Ada c' w (shT n x) v := by
 rcases hr with h2 | h2 | ⟨aS, h2, h4⟩
 ·exact .inl (by rw [h2, shT])
 ·exact .inr (.inl (by rw [h2, shT]))
 ·exact .inr (.inr ⟨aS, Aj.shift h h2, by rw [Aen]; exact h4⟩)
theorem Rep.shift {c c' : Ctx} {w : World} {n : Nat} (h : Aac c c' n) {x : TV} {v : Value} (hr : Rep c w x v) : Rep c' w (shT n x) v := by
 rcases hr with hr | ⟨xs, vs, h1, h2, h3⟩
 ·exact .inl (Ada.shift h hr)
 ·exact .inr ⟨shL n xs, vs, by rw [h1, shT], h2, Ba.shift h h3⟩
theorem AL.shift {c c' : Ctx} {w : World} {n : Nat} (h : Aac c c' n) {kk : MK} : ∀ {es : List (List UInt8 × TV)} {ms : List MapEntry}, AL c w kk es ms → AL c' w kk (AeJ n es) ms
 | [], ms, k => k
 | (q, x) :: es, ms, k => by
  obtain ⟨m, r, rfl, h1, h2, h3⟩ := k
  exact ⟨m, r, rfl, h1, ⟨Aj.shift h h2.1, by rw [Aen]; exact h2.2⟩, AL.shift h h3⟩
theorem ZQ.shift {c c' : Ctx} {w : World} {n : Nat} (h : Aac c c' n) {id : Nat} {o : Ob} (k : ZQ c w id o) : ZQ c' w (id + n) (shO n o) := by
 cases o with
 | obj ver x =>
  rcases k with ⟨k1, k2⟩ | ⟨b, off, pre, vs, post, t, fr, k1, k2, k3, k4, k5⟩
  ·exact .inl ⟨(h.beta _ _).trans k1, Aj.shift h k2⟩
  ·exact .inr ⟨b, off, pre, vs, post, t, fr, (h.beta _ _).trans k1, k2, k3, k4, Aj.shift h k5⟩
 | gone v => exact k
 | ice ver m x =>
  obtain ⟨b, off, pre, vs, post, t, fr, k1, k2, k3, k4, k5⟩ := k
  exact ⟨b, off, pre, vs, post, t, fr, (h.beta _ _).trans k1, k2, k3, k4, Aj.shift h k5⟩
 | fact i ver t m => exact ⟨h.has _ _ k.1, fun b o e => k.2 b o ((h.beta _ _).symm.trans e)⟩
 | bld ver t l =>
  rcases k with ⟨k1, k2⟩ | ⟨b, post, fr, k1, k2, k3⟩
  ·exact .inl ⟨(h.beta _ _).trans k1, k2⟩
  ·exact .inr ⟨b, post, fr, (h.beta _ _).trans k1, k2, k3⟩
 | lp st pend fn N e ps ca cb =>
  obtain ⟨b, tmps, D, k1, k2, k3, k4⟩ := k
  exact ⟨b, tmps, D, (h.beta _ _).trans k1, k2, k3, fun s => by rw [Acz]; exact Rep.shift h (k4 s)⟩
 | mpo kk es =>
  obtain ⟨b, ms, cl, k1, k2, k3, k4⟩ := k
  exact ⟨b, ms, cl, (h.beta _ _).trans k1, k2, AL.shift h k3, k4⟩
 | sit s pos =>
  obtain ⟨b, k1, k2⟩ := k
  exact ⟨b, (h.beta _ _).trans k1, k2⟩
 | mpd kk zs cl =>
  obtain ⟨b, ms, k1, k2, k3, k4, k5⟩ := k
  exact ⟨b, ms, (h.beta _ _).trans k1, k2, by rw [AeL]; exact AL.shift h k3, by rw [Abq]; exact k4, by rw [Abq]; exact k5⟩
 | mit m sn cl =>
  obtain ⟨r, b, k1, ⟨k2, k3⟩, k4⟩ := k
  exact ⟨r, b, (h.beta _ _).trans k1, ⟨h.has _ _ k2, (h.beta _ _).trans k3⟩, k4⟩

/-- WHAT A CALL DOES WHERE NO OBJECT IS, IT DOES AMONG OBJECTS: its own ones stand behind them. -/
theorem Aq.behind {P : Program} {f : FuncId} {args : List TV} {R : TV → List Ob → Prop} {H : List Ob} {K : TV → List Ob → Prop} (h : Aq P f args [] R) (hp : CO args = true) (hk : ∀ x H', R x H' → K (shT H.length x) (H ++ H'.map (shO H.length))) : Aq P f args H K := by
 intro β F w vs hs hv
 have hs0 : Sim ⟨β, [], F⟩ w := ⟨fun id o ho => by simp at ho, fun i j x y b o o' hx => by simp at hx, fun b hb => by obtain ⟨i, o, off, h1, _⟩ := hb; simp at h1, hs.lt, hs.glob⟩
 refine (h β F w vs hs0 (Ba.pure hp hv)).mono ?_
 rintro _ w' ⟨v, x, β0, H0, F', rfl, hR, hs', hl, hx⟩
 have hno : ∀ b, ¬ Ctx.own ⟨β, [], F⟩ b := fun b hb => by obtain ⟨i, o, off, h1, _⟩ := hb; simp at h1
 have hnew : ∀ b, Ctx.own ⟨β0, H0, F'⟩ b → w.heap.size ≤ b := fun b hb => Nat.le_of_not_lt fun hlt => hno b (hl.oldOwn b hlt hb)
 have hsame : ∀ b, b < w.heap.size → w'.heap[b]? = w.heap[b]? := fun b hb => hl.same b hb (hno b)
 have hst : Pz F w F' w' := ⟨hl.os, hl.tape, hl.output, hl.size, hsame, hl.keepF, fun b hb hF' => (hl.oldF b hb hF').resolve_right (hno b), hs'.lt⟩
 have hlow := hst.sim hs
 let β1 : Nat → Nat → Option (Nat × Nat) := fun i v => if i < H.length then β i v else β0 (i - H.length) v
 have b1 : ∀ i v, i < H.length → β1 i v = β i v := fun i v hi => if_pos hi
 have b2 : ∀ i v, β1 (i + H.length) v = β0 i v := fun i v => by
  show (if i + H.length < H.length then _ else _) = _
  rw [if_neg (by omega), Nat.add_sub_cancel]
 have g1 : ∀ i, i < H.length → (H ++ H0.map (shO H.length))[i]? = H[i]? := fun i hi => List.getElem?_append_left hi
 have g2 : ∀ i, (H ++ H0.map (shO H.length))[i + H.length]? = (H0[i]?).map (shO H.length) := fun i => by
  rw [List.getElem?_append_right (by omega), Nat.add_sub_cancel, List.getElem?_map]
 have hsh : Aac ⟨β0, H0, F'⟩ ⟨β1, H ++ H0.map (shO H.length), F'⟩ H.length := ⟨b2, fun id ver ⟨o, k1, k2⟩ => ⟨shO H.length o, by show (H ++ H0.map (shO H.length))[id + H.length]? = _; rw [g2]; have k1' : H0[id]? = some o := k1; rw [k1']; rfl, by rw [TP]; exact k2⟩, fun b hb => hb⟩
 have hlt : ∀ {id : Nat} {o : Ob}, H[id]? = some o → id < H.length := fun k => (List.getElem?_eq_some_iff.1 k).1
 have hm : Gf ⟨β, H, F'⟩ w' ⟨β1, H ++ H0.map (shO H.length), F'⟩ w' := ⟨fun b hb => ⟨hb, rfl⟩, fun id ver ⟨o, k1, k2⟩ => ⟨⟨o, (g1 id (hlt k1)).trans k1, k2⟩, b1 id ver (hlt k1)⟩, fun _ _ => rfl⟩
 -- each object is an old one or a new one
 have two : ∀ (i : Nat) o, (H ++ H0.map (shO H.length))[i]? = some o → (i < H.length ∧ H[i]? = some o) ∨ ∃ j q, i = j + H.length ∧ H0[j]? = some q ∧ o = shO H.length q := fun i o ho => by
  by_cases hi : i < H.length
  ·exact .inl ⟨hi, (g1 i hi).symm.trans ho⟩
  ·obtain ⟨j, rfl⟩ : ∃ j, i = j + H.length := ⟨i - H.length, by omega⟩
   rw [g2] at ho
   obtain ⟨q, hq, rfl⟩ := Option.map_eq_some_iff.1 ho
   exact .inr ⟨j, q, rfl, hq, rfl⟩
 have ownlow : ∀ {i : Nat} {o : Ob} {b off : Nat}, H[i]? = some o → o.live = true → β i o.ver = some (b, off) → b < w.heap.size := fun k1 k2 k3 => hs.own_lt ⟨_, _, _, k1, k2, k3⟩
 have ownnew : ∀ {i : Nat} {o : Ob} {b off : Nat}, H0[i]? = some o → o.live = true → β0 i o.ver = some (b, off) → w.heap.size ≤ b := fun k1 k2 k3 => hnew _ ⟨_, _, _, k1, k2, k3⟩
 refine ⟨v, shT H.length x, β1, H ++ H0.map (shO H.length), F', rfl, hk x H0 hR, ⟨fun id o ho => ?_, fun i j x y b o o' hx hy lx ly ex ey => ?_, fun b hb hF => ?_, hs'.lt, hs'.glob⟩, ⟨hl.os, hl.tape, hl.output, hl.size, fun id ver ⟨o, k1, k2⟩ => ⟨⟨o, (g1 id (hlt k1)).trans k1, k2⟩, b1 id ver (hlt k1)⟩, hl.shape, fun b hb _ => hsame b hb, hl.keepF, fun b hb hF => .inl (hst.oldF b hb hF), fun b hb ho => ?_⟩, Rep.shift hsh hx⟩
 ·rcases two id o ho with ⟨hi, k⟩ | ⟨j, q, rfl, k, rfl⟩
  ·exact ZQ.mono hm ⟨o, k, Nat.le_refl _⟩ (fun _ _ _ _ => rfl) (hlow.ob id o k)
  ·exact ZQ.shift hsh (hs'.ob j q k)
 ·rcases two i x hx with ⟨hi, k⟩ | ⟨i', q, rfl, k, rfl⟩ <;> rcases two j y hy with ⟨hj, k'⟩ | ⟨j', q', rfl, k', rfl⟩
  ·rw [show (Ctx.mk β1 (H ++ H0.map (shO H.length)) F').β i x.ver = β i x.ver from b1 _ _ hi] at ex
   rw [show (Ctx.mk β1 (H ++ H0.map (shO H.length)) F').β j y.ver = β j y.ver from b1 _ _ hj] at ey
   exact hs.inj i j x y b o o' k k' lx ly ex ey
  ·rw [show (Ctx.mk β1 (H ++ H0.map (shO H.length)) F').β i x.ver = β i x.ver from b1 _ _ hi] at ex
   rw [show (Ctx.mk β1 (H ++ H0.map (shO H.length)) F').β (j' + H.length) (shO H.length q').ver = β0 j' (shO H.length q').ver from b2 _ _, TP] at ey
   rw [VG] at ly
   have a1 := ownlow k lx ex
   have a2 := ownnew k' ly ey
   omega
  ·rw [show (Ctx.mk β1 (H ++ H0.map (shO H.length)) F').β (i' + H.length) (shO H.length q).ver = β0 i' (shO H.length q).ver from b2 _ _, TP] at ex
   rw [show (Ctx.mk β1 (H ++ H0.map (shO H.length)) F').β j y.ver = β j y.ver from b1 _ _ hj] at ey
   rw [VG] at lx
   have a1 := ownlow k' ly ey
   have a2 := ownnew k lx ex
   omega
  ·rw [show (Ctx.mk β1 (H ++ H0.map (shO H.length)) F').β (i' + H.length) (shO H.length q).ver = β0 i' (shO H.length q).ver from b2 _ _, TP] at ex
   rw [show (Ctx.mk β1 (H ++ H0.map (shO H.length)) F').β (j' + H.length) (shO H.length q').ver = β0 j' (shO H.length q').ver from b2 _ _, TP] at ey
   rw [VG] at lx ly
   rw [hs'.inj i' j' q q' b o o' k k' lx ly ex ey]
 ·obtain ⟨i, o, off, k1, k2, k3⟩ := hb
  rcases two i o k1 with ⟨hi, k⟩ | ⟨j, q, rfl, k, rfl⟩
  ·rw [show (Ctx.mk β1 (H ++ H0.map (shO H.length)) F').β i o.ver = β i o.ver from b1 _ _ hi] at k3
   exact hlow.apart b ⟨i, o, off, k, k2, k3⟩ hF
  ·rw [show (Ctx.mk β1 (H ++ H0.map (shO H.length)) F').β (j + H.length) (shO H.length q).ver = β0 j (shO H.length q).ver from b2 _ _, TP] at k3
   rw [VG] at k2
   exact hs'.apart b ⟨j, q, off, k, k2, k3⟩ hF
 ·obtain ⟨i, o, off, k1, k2, k3⟩ := ho
  rcases two i o k1 with ⟨hi, k⟩ | ⟨j, q, rfl, k, rfl⟩
  ·rw [show (Ctx.mk β1 (H ++ H0.map (shO H.length)) F').β i o.ver = β i o.ver from b1 _ _ hi] at k3
   exact ⟨i, o, off, k, k2, k3⟩
  ·rw [show (Ctx.mk β1 (H ++ H0.map (shO H.length)) F').β (j + H.length) (shO H.length q).ver = β0 j (shO H.length q).ver from b2 _ _, TP] at k3
   rw [VG] at k2
   have := ownnew k k2 k3
   omega
end Go.Proofs.YtingoaihnlhiaaaDoor


namespace Go.Proofs.YtingoaihnlhiaaaDoor
open Go.RowKit
variable [A7]
set_option linter.unusedSectionVars false
set_option linter.unusedVariables false
set_option linter.unusedSimpArgs false

/-- Less, by bytes. -/
def ltB (a b : List UInt8) : Prop := a < b
theorem Ane (a b : List UInt8) : Op.bytesLess a b = decide (a < b) := bytesLess_eq a b
theorem RI (a : List UInt8) : ¬ ltB a a := List.lt_irrefl a
theorem Zr {a b c : List UInt8} (h : ltB a b) (k : ltB b c) : ltB a c := List.lt_trans h k
theorem Adg {a b : List UInt8} (h1 : ¬ ltB a b) (h2 : ¬ ltB b a) : a = b := List.le_antisymm (List.not_lt.1 h2) (List.not_lt.1 h1)
instance (a b : List UInt8) : Decidable (ltB a b) := inferInstanceAs (Decidable (a < b))

/-- Sorted, each once. -/
abbrev SD (l : List (List UInt8)) : Prop := l.Pairwise ltB
theorem SD.filter {l : List (List UInt8)} (h : SD l) (p : List UInt8 → Bool) : SD (l.filter p) := List.Pairwise.filter p h

theorem Af1 : ∀ {a b : List UInt8}, Lib.compareBytes a b < 0 ↔ ltB a b
 | [], [] => by simp [Lib.compareBytes, ltB]
 | [], _ :: _ => by simp [Lib.compareBytes, ltB]
 | _ :: _, [] => by simp [Lib.compareBytes, ltB]
 | a :: xs, b :: ys => by
  have ih := Af1 (a := xs) (b := ys)
  unfold ltB at ih ⊢
  rw [Lib.compareBytes, List.cons_lt_cons_iff]
  by_cases h1 : a < b
  ·simp [h1]
  ·by_cases h2 : b < a
   ·have hne : a ≠ b := fun e => by subst e; exact h1 h2
    simp [h1, h2, hne]
   ·have he : a = b := UInt8.le_antisymm (UInt8.not_lt.1 h2) (UInt8.not_lt.1 h1)
    rw [if_neg h1, if_neg h2, ih]
    simp [h1, he]
end Go.Proofs.YtingoaihnlhiaaaDoor


namespace Go.Proofs.YtingoaihnlhiaaaDoor
open Go.RowKit Go.Sort Go.Shelf
variable [A7]
set_option linter.unusedSectionVars false
set_option linter.unusedVariables false
set_option linter.unusedSimpArgs false




abbrev A3o := {l : List UInt8 // l.length = 20}
instance : Inhabited A3o := ⟨⟨List.replicate 20 0, by simp⟩⟩
end Go.Proofs.YtingoaihnlhiaaaDoor

