/- The machine of values: its base (merged texts). No program in sight. -/
import Derived.Test.YtijidndhlgbjhaaDoorBaseB
/- Functions: out of the condition of a body, what a call does; calls that leave nothing behind. No program in sight. -/
namespace Go.Proofs.YtijidndhlgbjhaaDoor
open Go.RowKit
variable [Globs]
set_option linter.unusedSectionVars false
set_option linter.unusedSimpArgs false
set_option linter.unusedVariables false
set_option autoImplicit false

inductive VR where
  | tmp (t : Nat)
  | cell (a : Nat) (ag : Bool) (sz : Nat)
  deriving Inhabited
def trR (P : Program) : List ResultVar → Option (List VR)
  | [] => some []
  | .tmp t :: r => (trR P r).map (.tmp t :: ·)
  | .cell a t :: r => match aggB P t, szOf P t, trR P r with
    | some ag, some sz, some r => some (.cell a ag sz :: r)
    | _, _, _ => none

def resL : List VR → Env → List Ob → (List TV → Prop) → Prop
  | [], e, H, K => K []
  | .tmp t :: r, e, H, K => resL r e H fun xs => K (get e t :: xs)
  | .cell a ag sz :: r, e, H, K => pop (.load ag sz (.t a)) e H fun x => resL r e H fun xs => K (x :: xs)
def res (r : List VR) (e : Env) (H : List Ob) (K : TV → Prop) : Prop := resL r e H fun xs => match xs with
  | [x] => K x
  | xs => (∀ x ∈ xs, isTup x = false) ∧ K (.tup xs)

section
variable {P : Program}
/-- A result that is read. -/
def rv (a : Act) (r : ResultVar) : Sem Value := match r with
  | .tmp t => pure (a.tmps.getD t undef)
  | .cell x t => do loadVar t (← asAddr (a.tmps.getD x undef))

theorem resL_run {c : Ctx} {w : World} {e : Env} {a : Act} (hs : Sim c w) (he : EnvOk c w e a) : ∀ {rs : List ResultVar} {vr : List VR} {K : List TV → Prop}, trR P rs = some vr → resL vr e c.H K →
    ∃ (xs : List TV) (vs : List Value), (rs.mapM (rv a)).run P w = .ok vs w ∧ xs.length = vs.length ∧ (∀ (i : Nat) x v, xs[i]? = some x → vs[i]? = some v → Rep c w x v) ∧ K xs
  | [], vr, K, ht, h => by
    simp only [trR, Option.some.injEq] at ht; subst ht
    exact ⟨[], [], rfl, rfl, by simp, h⟩
  | .tmp t :: rs, vr, K, ht, h => by
    simp only [trR, Option.map_eq_some_iff] at ht
    obtain ⟨r, hr, rfl⟩ := ht
    rw [resL] at h
    obtain ⟨xs, vs, h1, h2, h3, h4⟩ := resL_run hs he hr h
    refine ⟨get e t :: xs, a.tmps.getD t undef :: vs, by rw [List.mapM_cons]; simp only [rv, Sem.run_bind, Sem.run_pure, Result.andThen_ok, h1], by simp [h2], ?_, h4⟩
    intro i x v hx hv
    cases i with
    | zero => simp at hx hv; subst hx; subst hv; simpa using he.1 t
    | succ i => exact h3 i x v (by simpa using hx) (by simpa using hv)
  | .cell b t :: rs, vr, K, ht, h => by
    simp only [trR] at ht
    split at ht
    · rename_i ag sz r h1 h2 hr
      cases ht
      rw [resL] at h
      have hy := y_load (P := P) (a := a) (ty := 0) hs he h1 h2 (x := .tmp b) h
      obtain ⟨x, v, hrun, hx, hK⟩ := hy ⟨none, .load t (.tmp b), 0, "", #[], none⟩ rfl rfl
      have hload : (do loadVar t (← asAddr (a.tmps.getD b undef)) : Sem Value).run P w = .ok v w := by
        simp only [execOp, Instr.loadAt, Sem.run_bind, Act.eval] at hrun
        simp only [Sem.run_bind]
        cases hp : a.tmps.getD b undef with
        | pointer p =>
          rw [hp] at hrun
          cases p with
          | none => simp [Instr.sureAddr, stuck] at hrun
          | some ad =>
            simp only [Instr.sureAddr, Sem.run_pure, Result.andThen_ok, asAddr] at hrun ⊢
            cases hl : (loadVar t ad).run P w with
            | ok u w2 => rw [hl] at hrun; simp only [Result.andThen_ok, Sem.run_pure] at hrun; cases hrun; rfl
            | halt hh w2 => rw [hl] at hrun; simp at hrun
        | _ => rw [hp] at hrun; simp [Instr.sureAddr, stuck] at hrun
      obtain ⟨xs, vs, h3, h4, h5, h6⟩ := resL_run hs he hr hK
      refine ⟨x :: xs, v :: vs, by rw [List.mapM_cons, Sem.run_bind]; show Result.andThen ((rv a (.cell b t)).run P w) _ = _; rw [show (rv a (.cell b t)).run P w = .ok v w from hload]; simp only [Result.andThen_ok, Sem.run_bind, h3, Sem.run_pure], by simp [h4], ?_, h6⟩
      intro i y u hy hu
      cases i with
      | zero => simp at hy hu; subst hy; subst hu; exact hx
      | succ i => exact h5 i y u (by simpa using hy) (by simpa using hu)
    · cases ht

theorem res_run {c : Ctx} {w : World} {e : Env} {a : Act} (hs : Sim c w) (he : EnvOk c w e a) {fn : Func} {vr : List VR} {K : TV → Prop} (ht : trR P fn.results.toList = some vr) (h : res vr e c.H K) :
    ∃ x v, (results fn a.tmps).run P w = .ok v w ∧ Rep c w x v ∧ K x := by
  obtain ⟨xs, vs, h1, h2, h3, h4⟩ := resL_run hs he ht h
  have hrun : (fn.results.mapM (rv a)).run P w = .ok vs.toArray w := by
    rw [Array.mapM_eq_mapM_toList]
    simp only [Sem.run_map, h1, Result.andThen_ok]
  have hres : (results fn a.tmps).run P w = .ok (if h : vs.toArray.size = 1 then vs.toArray[0] else .tuple vs.toArray) w := by
    have : results fn a.tmps = (do let vs ← fn.results.mapM (rv a); pure (if h : vs.size = 1 then vs[0] else .tuple vs)) := rfl
    rw [this, Sem.run_bind, hrun]; rfl
  rcases xs with _ | ⟨x, _ | ⟨y, xs⟩⟩
  · have hv : vs = [] := List.length_eq_zero_iff.1 (by simpa using h2.symm)
    subst hv
    exact ⟨_, _, hres, .inr ⟨[], [], rfl, rfl, by rw [RepL]⟩, h4.2⟩
  · obtain ⟨v, rfl⟩ := List.length_eq_one_iff.1 (by simpa using h2.symm)
    exact ⟨_, _, hres, h3 0 x v rfl rfl, h4⟩
  · rcases vs with _ | ⟨u, _ | ⟨v, vs⟩⟩
    · simp at h2
    · simp at h2
    · refine ⟨_, _, hres, .inr ⟨_, u :: v :: vs, rfl, by simp, ?_⟩, h4.2⟩
      have key : ∀ (xs : List TV) (vs : List Value), xs.length = vs.length → (∀ x ∈ xs, isTup x = false) → (∀ (i : Nat) x v, xs[i]? = some x → vs[i]? = some v → Rep c w x v) → RepL c w xs vs := by
        intro xs
        induction xs with
        | nil => intro vs h _ _; rw [RepL]; exact List.length_eq_zero_iff.1 h.symm
        | cons x xs ih =>
          intro vs hl ht hr
          cases vs with
          | nil => simp at hl
          | cons v vs =>
            refine RepL.cons.2 ⟨v, vs, rfl, ?_, ih vs (by simpa using hl) (fun y hy => ht y (by simp [hy])) fun i y u hy hu => hr (i + 1) y u (by simpa using hy) (by simpa using hu)⟩
            rcases hr 0 x v rfl rfl with h | ⟨ys, us, rfl, _⟩
            · exact h
            · have := ht (.tup ys) (by simp); simp [isTup] at this
      exact key _ _ h2 h4.1 h3

def argsE : Nat → List TV → Env
  | _, [] => []
  | i, x :: xs => (i, x) :: argsE (i + 1) xs
theorem get_argsE : ∀ (xs : List TV) (i s : Nat), get (argsE i xs) s = if i ≤ s then (xs[s - i]?).getD .any else .any
  | [], i, s => by simp [argsE, get]
  | x :: xs, i, s => by
    rw [argsE, get_cons, get_argsE xs (i + 1) s]
    by_cases h : i = s
    · subst h; simp
    · rw [if_neg h]
      by_cases h2 : i ≤ s
      · rw [if_pos (by omega), if_pos h2, show s - i = (s - (i + 1)) + 1 from by omega, List.getElem?_cons_succ]
      · rw [if_neg (by omega), if_neg h2]

theorem RepL.get {c : Ctx} {w : World} : ∀ {xs : List TV} {vs : List Value}, RepL c w xs vs → xs.length = vs.length ∧ ∀ (i : Nat) x, xs[i]? = some x → ∃ v, vs[i]? = some v ∧ Rep c w x v
  | [], vs, h => by rw [RepL] at h; subst h; simp
  | x :: xs, vs, h => by
    obtain ⟨u, us, rfl, h1, h2⟩ := RepL.cons.1 h
    obtain ⟨h3, h4⟩ := RepL.get h2
    refine ⟨by simp [h3], fun i y hy => ?_⟩
    cases i with
    | zero => simp at hy; subst hy; exact ⟨u, rfl, .inl h1⟩
    | succ i => simpa using h4 i y (by simpa using hy)

/-- The end of a body. -/
def atEnd (vr : List VR) (R : TV → List Ob → Prop) : VEx → Env → List Ob → Prop
  | .nor, e, H => res vr e H fun x => R x H
  | .ret, e, H => res vr e H fun x => R x H
  | .exit _, _, _ => False

/-- A block that is nobody's turns. -/
theorem Sim.nobody {c : Ctx} {w : World} (hs : Sim c w) {r : Nat} {o o' : Obj} (hr : w.heap[r]? = some o) (h1 : ¬ c.own r) (h2 : ¬ c.F r) (hsh : (w.putObj r o').shape? r = w.shape? r) : Sim c (w.putObj r o') ∧ Mono c w c (w.putObj r o') := by
  have hoth : ∀ b, b ≠ r → (w.putObj r o').heap[b]? = w.heap[b]? := fun b hb => World.putObj_heap_other hb
  have hm : Mono c w c (w.putObj r o') := ⟨fun b hb => ⟨hb, hoth b fun e => h2 (e ▸ hb)⟩, fun _ _ h => ⟨h, rfl⟩, fun b _ => by
    by_cases hb : b = r
    · subst hb; exact hsh
    · exact shape_of_block (hoth b hb)⟩
  refine ⟨⟨fun id ob ho => ObIs.mono hm (Ctx.has_of ho) (fun hl b off hb => hoth b fun e => h1 (e ▸ Ctx.own_of ho hl hb)) (hs.ob id ob ho), hs.inj, hs.apart, fun b hb => ?_, hs.glob.keep hm.stay⟩, hm⟩
  rw [(putObj_os w r o').2.2.2]; exact hs.lt b hb
theorem Later.nobody {c0 c : Ctx} {w0 w : World} (h : Later c0 w0 c w) {r : Nat} {o' : Obj} (hr : w0.heap.size ≤ r) : Later c0 w0 c (w.putObj r o') :=
  ⟨h.os, h.tape, h.output, by rw [(putObj_os w r o').2.2.2]; exact h.size, h.has, fun b hb => (shape_of_block (World.putObj_heap_other (by omega))).trans (h.shape b hb), fun b hb ho => (World.putObj_heap_other (by omega)).trans (h.same b hb ho), h.keepF, h.oldF, h.oldOwn⟩
/-- The blocks are shut on the way out. -/
theorem Marks.shut {FF : Fence} {n : Nat} {fn : Func} {tmps : Array Value} {R : Ending → World → Prop} {B : Nat} {c : Ctx} : ∀ {D : List Deferred} {w : World}, Marks B c w D → Sim c w →
    ∃ wF, (LeavesInM FF n P fn tmps R [] .returning wF → LeavesInM FF n P fn tmps R D .returning w) ∧ Sim c wF ∧ Mono c w c wF ∧ ∀ (c0 : Ctx) (w0 : World), w0.heap.size ≤ B → Later c0 w0 c w → Later c0 w0 c wF := by
  rintro D w ⟨ds, rfl, hnd, hds⟩ hs
  induction ds generalizing w with
  | nil => exact ⟨w, fun h => h, hs, Mono.heap rfl, fun c0 w0 _ h => h⟩
  | cons r ds ih =>
    obtain ⟨k1, k2, k3, k4, k5⟩ := hds r (by simp)
    rw [List.nodup_cons] at hnd
    have hput := World.putObj_heap_same (w := w) (o := .deferred none) k2
    obtain ⟨s1, s2⟩ := hs.nobody (o' := .deferred none) k5 k3 k4 (by simp [World.shape?, hput, k5])
    obtain ⟨wF, e1, e2, e3, e4⟩ := ih (w := w.putObj r (.deferred none)) hnd.2 (fun q hq => by
      obtain ⟨q1, q2, q3, q4, q5⟩ := hds q (by simp [hq])
      have hne : q ≠ r := fun e => hnd.1 (e ▸ hq)
      exact ⟨q1, by rw [(putObj_os w r _).2.2.2]; exact q2, q3, q4, (World.putObj_heap_other hne).trans q5⟩) s1
    refine ⟨wF, fun h => ⟨by simp, .inl ⟨r, _, rfl, run_takeDeferred k5, e1 h⟩⟩, e2, ⟨fun b hb => ⟨hb, ((e3.stay b hb).2).trans (s2.stay b hb).2⟩, fun _ _ h => ⟨h, rfl⟩, fun b hb => (e3.shape b (by rw [(putObj_os w r _).2.2.2]; exact hb)).trans (s2.shape b hb)⟩, fun c0 w0 hB hl => e4 c0 w0 hB (hl.nobody (by omega))⟩

/-- A FUNCTION: out of its body's condition. -/
theorem vcalls_of {f : FuncId} {fn : Func} {vc : VCode} {vr : List VR} {args : List TV} {H : List Ob} {R : TV → List Ob → Prop} (hf : P.funcs[f]? = some fn) (ht : fn.body.bind (trC P fn.ntmps) = some (er vc)) (hr : trR P fn.results.toList = some vr)
    (hn : args.length ≤ fn.ntmps) (h : vwp P vc (atEnd vr R) (argsE 0 args) H) : VCalls P f args H R := by
  obtain ⟨code, hb, ht⟩ := Option.bind_eq_some_iff.1 ht
  intro β F w vs hs hv
  obtain ⟨hl, hget⟩ := RepL.get hv
  refine (callsIn_wide (n := 0)).1 (callsIn_of_wp_marks hf hb trivial ?_)
  refine vwp_sound (ro := none) (nn := 0) (B := w.heap.size) (D := []) vc (.inl rfl) ht h hs ⟨⟨fun s => ?_, hs.glob⟩, by simp; omega, rfl⟩ Marks.nil (Nat.le_refl _) ?_
  · rw [get_argsE]
    simp only [Nat.zero_le, if_true, Nat.sub_zero]
    cases hx : args[s]? with
    | none => exact Rep.any
    | some x =>
      obtain ⟨v, hv1, hv2⟩ := hget s x hx
      have hs' : s < vs.length := (List.getElem?_eq_some_iff.1 hv1).1
      have : ((vs.toArray ++ Array.replicate (fn.ntmps - vs.toArray.size) undef).getD s undef) = v := by
        rw [Array.getD_eq_getD_getElem?, Array.getElem?_append_left (by simpa using hs')]
        simp [hv1]
      rw [this]; exact hv2
  · intro x e' H' β' F' w' a' D' k1 k2 k3 km k4
    have fin : res vr e' H' (fun x => R x H') → LeavesInM Fence.wide 0 P fn a'.tmps (fun e w' => ∃ v x β' H' F', e = .returned v ∧ R x H' ∧ Sim ⟨β', H', F'⟩ w' ∧ Later ⟨β, H, F⟩ w ⟨β', H', F'⟩ w' ∧ Rep ⟨β', H', F'⟩ w' x v) a'.defers .returning w' := fun h => by
      rw [k3.defers]
      obtain ⟨wF, e1, e2, e3, e4⟩ := Marks.shut (P := P) (FF := Fence.wide) (n := 0) (fn := fn) (tmps := a'.tmps) (R := fun e w' => ∃ v x β' H' F', e = .returned v ∧ R x H' ∧ Sim ⟨β', H', F'⟩ w' ∧ Later ⟨β, H, F⟩ w ⟨β', H', F'⟩ w' ∧ Rep ⟨β', H', F'⟩ w' x v) km k2
      obtain ⟨y, v, r1, r2, r3⟩ := res_run (fn := fn) (a := a') e2 ⟨fun s => Rep.mono e3 (k3.env.1 s), e2.glob⟩ hr h
      exact e1 ⟨v, r1, v, y, β', H', F', rfl, r3, e2, e4 _ _ (Nat.le_refl _) k4, r2⟩
    cases x with
    | nor => exact fin k1
    | ret => exact fin k1
    | exit i => exact k1.elim

/-- How a round's body is left. -/
def YPost (id n0 : Nat) (R : TV → List Ob → Prop) : VEx → Env → List Ob → Prop := fun x _ H => match H[id]? with
  | some (.lp .busy none fn N e ps ca cb) => (match x with
    | .nor => ∃ g, (n0 ≤ g ∧ id < g ∧ (H.length ≤ g ∨ belowH g ((H.set id (.lp .ready none fn N e ps ca cb)).take g) = true)) ∧ R (.val (.bool true)) ((H.set id (.lp .ready none fn N e ps ca cb)).take g)
    | .ret => R (.val (.bool false)) (H.set id (.lp .done (some .ret) fn N e ps ca cb))
    | .exit i => R (.val (.bool false)) (H.set id (.lp .done (some (.exit i)) fn N e ps ca cb)))
  | _ => False
/-- The slots at a round's beginning. -/
def bindE : List Nat → List TV → Env → Env
  | p :: ps, x :: xs, e => bindE ps xs ((p, x) :: e)
  | _, _, e => e
theorem bindE_ok {c : Ctx} {w : World} {N : Nat} : ∀ {ps : List Nat} {xs : List TV} {vs : List Value} {e : Env} {t : Array Value}, RepL c w xs vs → ps.all (· < N) = true → t.size = N → (∀ s, Rep c w (get e s) (t.getD s undef)) →
    ((ps.zip vs).foldl (fun t (p, v) => t.setIfInBounds p v) t).size = N ∧ ∀ s, Rep c w (get (bindE ps xs e) s) (((ps.zip vs).foldl (fun t (p, v) => t.setIfInBounds p v) t).getD s undef)
  | [], xs, vs, e, t, _, _, ht, h => by rw [List.zip_nil_left, List.foldl_nil]; simp only [bindE]; exact ⟨ht, h⟩
  | p :: ps, [], vs, e, t, hv, _, ht, h => by rw [RepL.nil] at hv; subst hv; rw [List.zip_nil_right, List.foldl_nil]; simp only [bindE]; exact ⟨ht, h⟩
  | p :: ps, x :: xs, vs, e, t, hv, hp, ht, h => by
    obtain ⟨u, us, rfl, h1, h2⟩ := RepL.cons.1 hv
    rw [List.all_cons, Bool.and_eq_true, decide_eq_true_eq] at hp
    rw [bindE, List.zip_cons_cons, List.foldl_cons]
    refine bindE_ok h2 hp.2 (by simp [ht]) fun s => ?_
    rw [get_cons]
    by_cases hs : p = s
    · subst hs
      have : (t.setIfInBounds p u).getD p undef = u := by simp [Array.getD, ht, hp.1]
      rw [if_pos rfl, this]; exact .inl h1
    · have : (t.setIfInBounds p u).getD s undef = t.getD s undef := by simp [Array.getElem?_setIfInBounds_ne hs]
      rw [if_neg hs, this]; exact h s

/-- A ROUND, out of the conditions of its code. -/
theorem vyield_of {id fn N : Nat} {e : Env} {ps : List Nat} {ca cb : Code} {as bd : VCode} {args : List TV} {H : List Ob} {R : TV → List Ob → Prop} (ho : H[id]? = some (.lp .ready none fn N e ps ca cb)) (hc : RfCode P N ps ca cb as bd) (hl : args.length = ps.length) (ha : noRf as = true) (hb : noRf bd = true)
    (h : vwp P as (fun x e1 H1 => x = .nor ∧ H1[id]? = some (.lp .ready none fn N e ps ca cb) ∧ vwp P bd (YPost id H.length R) e1 (H1.set id (.lp .busy none fn N e ps ca cb))) (bindE ps args e) H) : VYield P id 0 args H R := by
  intro β F w vs b o hs hv hbo n
  obtain ⟨b', r, r1, r2, r3, r4, r5, r6, r7, r8, r9, r10, -, -⟩ := hs.loopTurn (st' := .busy) (pe' := none) ho
  rw [hbo] at r1
  obtain ⟨rfl, rfl⟩ : b = b' ∧ o = 0 := by simpa using r1
  have hlv : vs.length = args.length := (RepL.get hv).1.symm
  have hy := run_yield (P := P) (args := vs.toArray) r2 (by rw [r7]; simp [hlv, hl])
  refine ⟨_, _, _, _, hy, ?_⟩
  rw [r8, r9, r7]
  refine roundIn_of_wpIn trivial ?_
  have hz : (ps.toArray.zip vs.toArray).foldl (fun tmps (t, a) => tmps.setIfInBounds t a) r.tmps = (ps.zip vs).foldl (fun t (p, v) => t.setIfInBounds p v) r.tmps := by simp
  rw [hz]
  obtain ⟨z1, z2⟩ := bindE_ok hv hc.p r6 r10
  refine vwp_sound (ro := some b) (nn := n) (B := 0) (D := []) as (.inr ha) hc.a h hs ⟨⟨z2, hs.glob⟩, z1, rfl⟩ Marks.nil (Nat.zero_le _) ?_
  rintro x e1 H1 β1 F1 w1 a1 D1 ⟨rfl, h1, h2⟩ s1 f1 m1 l1
  obtain ⟨b2, q, q1, q2, q3, q4, q5, q6, q7, q8, q9, q10, q11, q12⟩ := s1.loopTurn (st' := .busy) (pe' := none) h1
  have hlt : id < H.length := (List.getElem?_eq_some_iff.1 ho).1
  have hβ1 : β1 id 0 = some (b, 0) := ((l1.has id 0 ⟨_, ho, Nat.le_refl _⟩).2).trans hbo
  rw [hβ1] at q1
  obtain ⟨rfl, _⟩ : b = b2 ∧ True := by simpa using q1
  have hbr := run_beginRound (P := P) q2 q3
  have e0 : ({ q with state := .busy, pending := none } : Loop) = { q with state := .busy } := by rw [← q4]
  rw [e0] at q11 q12
  refine ⟨_, hbr, ?_⟩
  refine vwp_sound (ro := some b) (nn := n) (B := 0) (D := D1) bd (.inr hb) hc.b h2 q11 ⟨⟨fun s => Rep.mono (q12.mono s1) (f1.env.1 s), q11.glob⟩, f1.size, f1.defers⟩ (m1.later q12) (Nat.zero_le _) ?_
  intro x e2 H2 β2 F2 w2 a2 D2 k1 k2 k3 km k4
  have hlat := (l1.trans q12).trans k4
  have hβ2 : β2 id 0 = some (b, 0) := ((hlat.has id 0 ⟨_, ho, Nat.le_refl _⟩).2).trans hbo
  unfold YPost at k1
  split at k1
  · rename_i fn' N' e' ps' c1 c2 hob
    have fin : ∀ (pe : Option Code), ∃ r : Loop, w2.heap[b]? = some (.loop r) ∧ Sim ⟨β2, H2.set id (.lp (if pe.isNone then .ready else .done) pe fn' N' e' ps' c1 c2), F2⟩ (w2.putObj b (.loop { r with state := if pe.isNone then .ready else .done, pending := pe })) ∧
        Later ⟨β2, H2, F2⟩ w2 ⟨β2, H2.set id (.lp (if pe.isNone then .ready else .done) pe fn' N' e' ps' c1 c2), F2⟩ (w2.putObj b (.loop { r with state := if pe.isNone then .ready else .done, pending := pe })) := by
      intro pe
      obtain ⟨b3, r, t1, t2, _, _, _, _, _, _, _, _, t3, t4⟩ := k2.loopTurn (st' := if pe.isNone then .ready else .done) (pe' := pe) hob
      rw [hβ2] at t1
      obtain ⟨rfl, _⟩ : b = b3 ∧ True := by simpa using t1
      exact ⟨r, t2, t3, t4⟩
    cases x with
    | nor =>
      obtain ⟨g, ⟨g1, g2, g3⟩, hR⟩ := k1
      obtain ⟨r, t2, t3, t4⟩ := fin none
      refine ⟨_, _, run_endRound none t2, ?_⟩
      rcases g3 with g3 | g3
      · rw [List.take_of_length_le (by simpa using g3)] at hR
        exact ⟨_, _, _, _, _, rfl, hR, t3, hlat.trans t4, Rep.of_val⟩
      · refine ⟨_, .val (.bool true), β2, _, F2, rfl, hR, ?_, ?_, Rep.of_val⟩
        · exact Sim.cut (c := ⟨β2, _, F2⟩) t3 g3
        · exact Later.cut (c := ⟨β2, _, F2⟩) (hlat.trans t4) g1
    | ret =>
      obtain ⟨r, t2, t3, t4⟩ := fin (some .ret)
      exact ⟨_, _, run_endRound (some .ret) t2, _, _, _, _, _, rfl, k1, t3, hlat.trans t4, Rep.of_val⟩
    | exit i =>
      obtain ⟨r, t2, t3, t4⟩ := fin (some (.exit i))
      exact ⟨_, _, run_endRound (some (.exit i)) t2, _, _, _, _, _, rfl, k1, t3, hlat.trans t4, Rep.of_val⟩
  · exact k1.elim

/-- Nothing that was there has turned. -/
structure Stays (F : Nat → Prop) (w : World) (F' : Nat → Prop) (w' : World) : Prop where
  os : w'.os = w.os
  tape : w'.tape = w.tape
  output : w'.output = w.output
  size : w.heap.size ≤ w'.heap.size
  same : ∀ b, b < w.heap.size → w'.heap[b]? = w.heap[b]?
  keepF : ∀ b, F b → F' b
  oldF : ∀ b, b < w.heap.size → F' b → F b
  ltF : ∀ b, F' b → b < w'.heap.size

/-- A CALL THAT LEAVES NOTHING BEHIND but new memory that nobody changes any more. -/
def VPure (P : Program) (f : FuncId) (args : List TV) (R : TV → Prop) : Prop :=
  ∀ (β : Nat → Nat → Option (Nat × Nat)) (F : Nat → Prop) (w : World) (vs : List Value), ((∀ b, F b → b < w.heap.size) ∧ GlobOk F w) → RepL ⟨β, [], F⟩ w args vs →
    Calls P f vs.toArray w fun e w' => ∃ v x F', e = .returned v ∧ R x ∧ Rep ⟨β, [], F'⟩ w' x v ∧ Stays F w F' w'

theorem VPure.mono {f : FuncId} {args : List TV} {R R' : TV → Prop} (h : VPure P f args R) (hr : ∀ x, R x → R' x) : VPure P f args R' :=
  fun β F w vs hF hv => (h β F w vs hF hv).mono fun _ _ ⟨v, x, F', h1, h2, h3⟩ => ⟨v, x, F', h1, hr _ h2, h3⟩

theorem VCalls.toPure {f : FuncId} {args : List TV} {R : TV → Prop} (h : VCalls P f args [] fun x H' => match frz H' x with | some y => R y | none => False) : VPure P f args R := by
  intro β F w vs hF hv
  have hs : Sim ⟨β, [], F⟩ w := ⟨fun id o ho => by simp at ho, fun i j x y b o o' hx => by simp at hx, fun b hb => by obtain ⟨i, o, off, h1, _⟩ := hb; simp at h1, hF.1, hF.2⟩
  refine (h β F w vs hs hv).mono ?_
  rintro _ w' ⟨v, x, β', H', F', rfl, hR, hs', hl, hx⟩
  split at hR
  · rename_i y hy
    have hno : ∀ b, ¬ Ctx.own ⟨β, [], F⟩ b := fun b hb => by obtain ⟨i, o, off, h1, _⟩ := hb; simp at h1
    have hr := frz_rep hs' hy hx
    refine ⟨v, y, fun b => F' b ∨ Ctx.own ⟨β', H', F'⟩ b, rfl, hR, Rep.mono (Mono.toBare [] β) hr, ⟨hl.os, hl.tape, hl.output, hl.size, fun b hb => hl.same b hb (hno b), fun b hb => .inl (hl.keepF b hb), fun b hb hF' => ?_, fun b hF' => hF'.elim (hs'.lt b) hs'.own_lt⟩⟩
    rcases hF' with hF' | hF'
    · exact (hl.oldF b hb hF').resolve_right (hno b)
    · exact absurd (hl.oldOwn b hb hF') (hno b)
  · exact hR.elim

theorem Stays.later {β : Nat → Nat → Option (Nat × Nat)} {H : List Ob} {F F' : Nat → Prop} {w w' : World} (h : Stays F w F' w') : Later ⟨β, H, F⟩ w ⟨β, H, F'⟩ w' :=
  ⟨h.os, h.tape, h.output, h.size, fun id v ⟨o, h1, h2⟩ => ⟨⟨o, h1, h2⟩, rfl⟩, fun b hb => shape_of_block (h.same b hb), fun b hb _ => h.same b hb, h.keepF, fun b hb hF => .inl (h.oldF b hb hF), fun b hb ⟨i, o, off, h1, h2, h3⟩ => ⟨i, o, off, h1, h2, h3⟩⟩
theorem Stays.sim {β : Nat → Nat → Option (Nat × Nat)} {H : List Ob} {F F' : Nat → Prop} {w w' : World} (hs : Sim ⟨β, H, F⟩ w) (h : Stays F w F' w') : Sim ⟨β, H, F'⟩ w' := by
  have hm : Mono ⟨β, H, F⟩ w ⟨β, H, F'⟩ w' := ⟨fun b hb => ⟨h.keepF b hb, h.same b (hs.lt b hb)⟩, fun id v ⟨o, h1, h2⟩ => ⟨⟨o, h1, h2⟩, rfl⟩, fun b hb => shape_of_block (h.same b hb)⟩
  refine ⟨fun id o ho => ObIs.mono hm ⟨o, ho, Nat.le_refl _⟩ (fun hl b off hb => h.same b (hs.own_lt ⟨id, o, off, ho, hl, hb⟩)) (hs.ob id o ho), hs.inj, fun b hb hF => ?_, h.ltF, hs.glob.keep hm.stay⟩
  obtain ⟨i, o, off, h1, h2, h3⟩ := hb
  have ho : Ctx.own ⟨β, H, F⟩ b := ⟨i, o, off, h1, h2, h3⟩
  exact hs.apart b ho (h.oldF b (hs.own_lt ho) hF)

/-- Such a call, with nothing lent. -/
theorem VPure.calls {f : FuncId} {args : List TV} {R : TV → Prop} {H : List Ob} {K : TV → List Ob → Prop} (h : VPure P f args R) (hp : pureL args = true) (hk : ∀ x, R x → K x H) : VCalls P f args H K := by
  intro β F w vs hs hv
  refine (h β F w vs ⟨hs.lt, hs.glob⟩ (RepL.pure hp hv)).mono ?_
  rintro _ w' ⟨v, x, F', rfl, hR, hx, hst⟩
  exact ⟨v, x, β, H, F', rfl, hk x hR, hst.sim hs, hst.later, Rep.mono (Mono.toBare H β) hx⟩

/-- Such a call, to which objects are lent: it yields no memory. -/
theorem VPure.lends {f : FuncId} {args args' : List TV} {R : TV → Prop} {H : List Ob} {K : TV → List Ob → Prop} (h : VPure P f args' R) (hp : frzL H args = some args') (hk : ∀ x, R x → scal x = true ∧ K x H) : VCalls P f args H K := by
  intro β F w vs hs hv
  refine (h β (fun b => F b ∨ Ctx.own ⟨β, H, F⟩ b) w vs ⟨fun b hb => hb.elim (hs.lt b) hs.own_lt, hs.glob.keep fun b hb => ⟨.inl hb, rfl⟩⟩ (frzL_rep hs hp hv)).mono ?_
  rintro _ w' ⟨v, x, F', rfl, hR, hx, hst⟩
  obtain ⟨hsc, hK⟩ := hk x hR
  have hst' : Stays F w F w' := ⟨hst.os, hst.tape, hst.output, hst.size, hst.same, fun _ h => h, fun _ _ h => h, fun b hb => Nat.lt_of_lt_of_le (hs.lt b hb) hst.size⟩
  exact ⟨v, x, β, H, F, rfl, hK, hst'.sim hs, hst'.later, scal_rep hsc hx⟩

/-! Calls whose results are new memory. -/
theorem Mono.ofF {β β' : Nat → Nat → Option (Nat × Nat)} {H : List Ob} {F F' : Nat → Prop} {w : World} (h : ∀ b, F b → F' b) : Mono ⟨β, [], F⟩ w ⟨β', H, F'⟩ w :=
  ⟨fun b hb => ⟨h b hb, rfl⟩, fun id v h => by obtain ⟨o, h, _⟩ := h; simp at h, fun _ _ => rfl⟩
mutual
/-- The reading of a result, where all memory in it is one's own, its elements without memory. -/
def frs (H : List Ob) : TV → Option TV
  | .val v => some (.val v)
  | .any => some .any
  | .os k id ver p off n cp => match H[id]? with
    | some (.obj v x) => if v = ver then (match elemsAt p k off n x with
      | some cs => if scalL cs then some (.sl k cs) else none
      | none => none) else none
    | _ => none
  | .agg cs => (frsL H cs).map .agg
  | .arr n k cs => if scalL cs then some (.arr n k cs) else none
  | .tup cs => (frsL H cs).map .tup
  | .ifc t x => (frs H x).map (.ifc t)
  | _ => none
def frsL (H : List Ob) : List TV → Option (List TV)
  | [] => some []
  | x :: xs => match frs H x, frsL H xs with
    | some x, some xs => some (x :: xs)
    | _, _ => none
end

/-- Only one's own blocks. -/
def Ctx.mine (c : Ctx) : Ctx := ⟨c.β, [], c.own⟩

theorem elemsAt_nilcs {p : List (Nat × Nat)} {k off : Nat} {x : TV} {cs : List TV} (h : elemsAt p k off 0 x = some cs) : cs = [] := by
  unfold elemsAt at h
  split at h
  · split at h
    · cases h; simp
    · cases h
  · cases h

mutual
theorem frs_rep {c : Ctx} {w : World} (hs : Sim c w) : ∀ {x x' : TV} {us : List Value}, frs c.H x = some x' → RepC c w x us → RepC c.mine w x' us
  | .val y, x', us, hf, hr => by simp only [frs, Option.some.injEq] at hf; subst hf; rw [RepC] at hr ⊢; exact hr
  | .any, x', us, hf, hr => by simp only [frs, Option.some.injEq] at hf; subst hf; rw [RepC] at hr ⊢; exact hr
  | .mp _ _, x', us, hf, hr => by simp [frs] at hf
  | .yl _ _, x', us, hf, hr => by simp [frs] at hf
  | .sl k cs, x', us, hf, hr => by simp [frs] at hf
  | .fp x, x', us, hf, hr => by simp [frs] at hf
  | .op id ver p, x', us, hf, hr => by simp [frs] at hf
  | .fn f a b, x', us, hf, hr => by simp [frs] at hf
  | .os k id ver p off n cp, x', us, hf, hr => by
    rw [RepC] at hr
    obtain ⟨hr1, hr2⟩ := hr
    rw [frs] at hf
    split at hf
    · rename_i ver' x hid
      split at hf
      · rename_i e; subst e
        split at hf
        · rename_i cs hcs
          split at hf
          · rename_i hsc
            cases hf
            rcases hr2 with ⟨rfl, a0, hr2, _⟩ | ⟨b0, o0, cap, t0, m0, hr2, hr3, hr4, hr5, hr6, hr7⟩
            · have := elemsAt_nilcs hcs
              subst this
              rw [RepC]
              exact ⟨by simp, .inl ⟨rfl, a0, 0, hr2, by omega⟩⟩
            rcases hs.ob id _ hid with ⟨h0, _⟩ | ⟨b, off', pre, vs, post, t, fr, h0, h1, h2, h3, h4⟩
            · rw [h0] at hr2; cases hr2
            rw [h0] at hr2
            obtain ⟨rfl, rfl⟩ : b = b0 ∧ off' = o0 := by simpa using hr2
            obtain ⟨a, m, q, rfl, k1, k2, k3, k4⟩ := elemsAt_spec h4 hcs
            rw [RepC]
            refine ⟨k3, .inr ⟨b, off' + span p + off * k, cap, m, by rw [k4]; exact hr3, by omega, hr5, ⟨id, _, off', hid, rfl, h0⟩, scalL_repCs hsc k2, ?_⟩⟩
            have e : off' + span p + off * k = pre.length + a.length := by rw [h3, k1]; omega
            rw [e]; exact cells_mid h1
          · cases hf
        · cases hf
      · cases hf
    · cases hf
  | .agg cs, x', us, hf, hr => by
    simp only [frs, Option.map_eq_some_iff] at hf
    obtain ⟨ds, hds, rfl⟩ := hf
    rw [RepC] at hr ⊢
    exact frsL_reps hs hds hr
  | .arr n k cs, x', us, hf, hr => by
    rw [frs] at hf
    split at hf
    · rename_i hsc; cases hf; rw [RepC] at hr ⊢; exact ⟨hr.1, hr.2.1, scalL_repCs hsc hr.2.2⟩
    · cases hf
  | .tup cs, x', us, hf, hr => by rw [RepC] at hr; exact hr.elim
  | .ifc t x, x', us, hf, hr => by
    simp only [frs, Option.map_eq_some_iff] at hf
    obtain ⟨y, hy, rfl⟩ := hf
    rw [RepC] at hr ⊢
    obtain ⟨u, h1, vs, h2, h3⟩ := hr
    exact ⟨u, h1, vs, frs_rep hs hy h2, by rw [h3]; exact frs_mkV hy vs⟩
theorem frsL_reps {c : Ctx} {w : World} (hs : Sim c w) : ∀ {xs xs' : List TV} {us : List Value}, frsL c.H xs = some xs' → RepCs c w xs us → RepCs c.mine w xs' us
  | [], xs', us, hf, hr => by simp only [frsL, Option.some.injEq] at hf; subst hf; rw [RepCs] at hr ⊢; exact hr
  | x :: xs, xs', us, hf, hr => by
    rw [frsL] at hf
    split at hf
    · rename_i y ys hy hys
      cases hf
      rw [RepCs] at hr ⊢
      obtain ⟨u, us, h1, h2, h3⟩ := hr
      exact ⟨u, us, h1, frs_rep hs hy h2, frsL_reps hs hys h3⟩
    · cases hf
theorem frs_mkV {H : List Ob} : ∀ {x x' : TV} (hf : frs H x = some x') (us : List Value), mkV x us = mkV x' us
  | .val y, x', hf, us => by simp only [frs, Option.some.injEq] at hf; subst hf; rfl
  | .any, x', hf, us => by simp only [frs, Option.some.injEq] at hf; subst hf; rfl
  | .mp _ _, x', hf, us => by simp [frs] at hf
  | .yl _ _, x', hf, us => by simp [frs] at hf
  | .sl k cs, x', hf, us => by simp [frs] at hf
  | .fp x, x', hf, us => by simp [frs] at hf
  | .op id ver p, x', hf, us => by simp [frs] at hf
  | .fn f a b, x', hf, us => by simp [frs] at hf
  | .os k id ver p off n cp, x', hf, us => by
    rw [frs] at hf
    split at hf
    · split at hf
      · split at hf
        · split at hf
          · cases hf; rfl
          · cases hf
        · cases hf
      · cases hf
    · cases hf
  | .agg cs, x', hf, us => by
    simp only [frs, Option.map_eq_some_iff] at hf
    obtain ⟨ds, hds, rfl⟩ := hf; rfl
  | .arr n k cs, x', hf, us => by
    rw [frs] at hf
    split at hf
    · cases hf; rfl
    · cases hf
  | .tup cs, x', hf, us => by
    simp only [frs, Option.map_eq_some_iff] at hf
    obtain ⟨ds, hds, rfl⟩ := hf; rfl
  | .ifc t x, x', hf, us => by
    simp only [frs, Option.map_eq_some_iff] at hf
    obtain ⟨y, hy, rfl⟩ := hf; rfl
end
theorem frsL_rep {c : Ctx} {w : World} (hs : Sim c w) : ∀ {xs xs' : List TV} {vs : List Value}, frsL c.H xs = some xs' → RepL c w xs vs → RepL c.mine w xs' vs
  | [], xs', vs, hf, hr => by simp only [frsL, Option.some.injEq] at hf; subst hf; rw [RepL] at hr ⊢; exact hr
  | x :: xs, xs', vs, hf, hr => by
    rw [frsL] at hf
    split at hf
    · rename_i y ys hy hys
      cases hf
      rw [RepL] at hr ⊢
      obtain ⟨u, us, h1, h2, h3⟩ := hr
      refine ⟨u, us, h1, ?_, frsL_rep hs hys h3⟩
      rcases h2 with rfl | rfl | ⟨as, h2, h4⟩
      · simp only [frs, Option.some.injEq] at hy; subst hy; exact .inl rfl
      · simp only [frs, Option.some.injEq] at hy; subst hy; exact .inr (.inl rfl)
      · exact .inr (.inr ⟨as, frs_rep hs hy h2, by rw [h4]; exact frs_mkV hy as⟩)
    · cases hf
theorem frs_rep1 {c : Ctx} {w : World} (hs : Sim c w) {x x' : TV} {v : Value} (hf : frs c.H x = some x') (hr : Rep c w x v) : Rep c.mine w x' v := by
  rcases hr with (h | h | ⟨us, h, h'⟩) | ⟨xs, vs, rfl, h2, h3⟩
  · subst h; simp only [frs, Option.some.injEq] at hf; subst hf; exact Rep.any
  · subst h; simp only [frs, Option.some.injEq] at hf; subst hf; exact Rep.of_val
  · exact .inl (.inr (.inr ⟨us, frs_rep hs hf h, by rw [h']; exact frs_mkV hf us⟩))
  · simp only [frs, Option.map_eq_some_iff] at hf
    obtain ⟨ds, hds, rfl⟩ := hf
    exact .inr ⟨ds, vs, rfl, h2, frsL_rep hs hds h3⟩

/-- A CALL THAT LEAVES NOTHING BEHIND, AND YIELDS NEW MEMORY ALONE. -/
def VFresh (P : Program) (f : FuncId) (args : List TV) (R : TV → Prop) : Prop :=
  ∀ (β : Nat → Nat → Option (Nat × Nat)) (F : Nat → Prop) (w : World) (vs : List Value), ((∀ b, F b → b < w.heap.size) ∧ GlobOk F w) → RepL ⟨β, [], F⟩ w args vs →
    Calls P f vs.toArray w fun e w' => ∃ v x F', e = .returned v ∧ R x ∧ Rep ⟨β, [], fun b => F' b ∧ w.heap.size ≤ b⟩ w' x v ∧ Stays F w F' w'

theorem VFresh.mono {f : FuncId} {args : List TV} {R R' : TV → Prop} (h : VFresh P f args R) (hr : ∀ x, R x → R' x) : VFresh P f args R' :=
  fun β F w vs hF hv => (h β F w vs hF hv).mono fun _ _ ⟨v, x, F', h1, h2, h3⟩ => ⟨v, x, F', h1, hr _ h2, h3⟩
theorem VFresh.pure {f : FuncId} {args : List TV} {R : TV → Prop} (h : VFresh P f args R) : VPure P f args R :=
  fun β F w vs hF hv => (h β F w vs hF hv).mono fun _ _ ⟨v, x, F', h1, h2, h3, h4⟩ => ⟨v, x, F', h1, h2, Rep.mono (Mono.ofF (F := fun b => F' b ∧ w.heap.size ≤ b) (F' := F') fun b hb => hb.1) h3, h4⟩

theorem VCalls.toFresh {f : FuncId} {args : List TV} {R : TV → Prop} (h : VCalls P f args [] fun x H' => match frs H' x with | some y => R y | none => False) : VFresh P f args R := by
  intro β F w vs hF hv
  have hs : Sim ⟨β, [], F⟩ w := ⟨fun id o ho => by simp at ho, fun i j x y b o o' hx => by simp at hx, fun b hb => by obtain ⟨i, o, off, h1, _⟩ := hb; simp at h1, hF.1, hF.2⟩
  refine (h β F w vs hs hv).mono ?_
  rintro _ w' ⟨v, x, β', H', F', rfl, hR, hs', hl, hx⟩
  split at hR
  · rename_i y hy
    have hno : ∀ b, ¬ Ctx.own ⟨β, [], F⟩ b := fun b hb => by obtain ⟨i, o, off, h1, _⟩ := hb; simp at h1
    have hr := frs_rep1 hs' hy hx
    have hnew : ∀ b, Ctx.own ⟨β', H', F'⟩ b → w.heap.size ≤ b := fun b hb => by
      rcases Nat.lt_or_ge b w.heap.size with h1 | h1
      · exact absurd (hl.oldOwn b h1 hb) (hno b)
      · exact h1
    refine ⟨v, y, fun b => F b ∨ Ctx.own ⟨β', H', F'⟩ b, rfl, hR, ?_, ⟨hl.os, hl.tape, hl.output, hl.size, fun b hb => hl.same b hb (hno b), fun b hb => .inl hb, fun b hb hF' => hF'.elim id fun h => ?_, fun b hF' => hF'.elim (fun h => Nat.lt_of_lt_of_le (hF.1 b h) hl.size) hs'.own_lt⟩⟩
    · exact Rep.mono (Mono.ofF (F := Ctx.own ⟨β', H', F'⟩) (F' := fun b => (F b ∨ Ctx.own ⟨β', H', F'⟩ b) ∧ w.heap.size ≤ b) fun b hb => ⟨.inr hb, hnew b hb⟩) hr
    · have := hnew b h; omega
  · exact hR.elim

/-- Such a call, to which objects are lent. -/
theorem VFresh.lends {f : FuncId} {args args' : List TV} {R : TV → Prop} {H : List Ob} {K : TV → List Ob → Prop} (h : VFresh P f args' R) (hp : frzL H args = some args') (hk : ∀ x, R x → K x H) : VCalls P f args H K := by
  intro β F w vs hs hv
  refine (h β (fun b => F b ∨ Ctx.own ⟨β, H, F⟩ b) w vs ⟨fun b hb => hb.elim (hs.lt b) hs.own_lt, hs.glob.keep fun b hb => ⟨.inl hb, rfl⟩⟩ (frzL_rep hs hp hv)).mono ?_
  rintro _ w' ⟨v, x, F', rfl, hR, hx, hst⟩
  have hst' : Stays F w (fun b => F b ∨ (F' b ∧ w.heap.size ≤ b)) w' := ⟨hst.os, hst.tape, hst.output, hst.size, hst.same, fun _ h => .inl h, fun b hb h => h.elim id fun h => by omega, fun b hb => hb.elim (fun h => Nat.lt_of_lt_of_le (hs.lt b h) hst.size) fun h => hst.ltF b h.1⟩
  refine ⟨v, x, β, H, _, rfl, hk x hR, hst'.sim hs, hst'.later, Rep.mono (Mono.ofF (F := fun b => F' b ∧ w.heap.size ≤ b) (F' := fun b => F b ∨ (F' b ∧ w.heap.size ≤ b)) fun b hb => .inr hb) hx⟩
end
end Go.Proofs.YtijidndhlgbjhaaDoor

/- Words and rules for the walks of the machine of values. No program in sight. -/
namespace Go.Proofs.YtijidndhlgbjhaaDoor
open Go.RowKit
variable [Globs]
set_option linter.unusedSectionVars false
set_option linter.unusedSimpArgs false
set_option linter.unusedVariables false
set_option autoImplicit false

/-- An equation that simp is to take for no definition. -/
theorem by_refl {α : Sort _} {a b : α} (h : a = b) : a = b := h

/-- Numbers, truth values, strings. -/
abbrev i64 (n : Int) : TV := .val (.int .i64 n)
abbrev tb (b : Bool) : TV := .val (.bool b)
abbrev ts (l : List UInt8) : TV := .val (.string (str l))
/-- Bytes, strings, numbers in memory. -/
abbrev slB (l : List UInt8) : TV := .sl 1 (l.map by8)
abbrev slS (l : List (List UInt8)) : TV := .sl 1 (l.map ts)

section
variable {P : Program} {e : Env} {H : List Ob}
/-! printed out of the definitions -/
theorem p_mov {x : Opd} {K : TV → Prop} : pop (.mov x) e H K = (K (x.ev e)) := by_refl rfl
theorem p_pick {c : Opd} {a : Opd} {b : Opd} {K : TV → Prop} : pop (.pick c a b) e H K = (match c.ev e with
    | .val (.bool t) => K (if t then a.ev e else b.ev e)
    | _ => False) := by_refl rfl
theorem p_bin {t : TypeId} {op : BinOp} {x : Opd} {y : Opd} {K : TV → Prop} : pop (.bin t op x y) e H K = (match x.ev e, y.ev e with
    | .val u, .val v => calm u v = true ∧ (match binV t op u v with | some r => K (.val r) | none => False)
    | _, _ => False) := by_refl rfl
theorem p_un {op : UnOp} {x : Opd} {K : TV → Prop} : pop (.un op x) e H K = (match x.ev e with
    | .val u => (match unV op u with | some r => K (.val r) | none => False)
    | _ => False) := by_refl rfl
theorem p_conv {k : IntKind} {x : Opd} {K : TV → Prop} : pop (.conv k x) e H K = (match x.ev e with
    | .val (.int _ n) => K (.val (.int k (k.wrap n)))
    | _ => False) := by_refl rfl
theorem p_s2s {x : Opd} {K : TV → Prop} : pop (.s2s x) e H K = (match x.ev e with
    | .val (.string s) => K (.val (.string s))
    | _ => False) := by_refl rfl
theorem p_b2s {x : Opd} {K : TV → Prop} : pop (.b2s x) e H K = (match elemsOf H 1 (x.ev e) with
    | some cs => (∀ y ∈ cs, isBy y) ∧ K (.val (.string (str (cs.map unby))))
    | none => False) := by_refl rfl
theorem p_load {ag : Bool} {sz : Nat} {x : Opd} {K : TV → Prop} : pop (.load ag sz x) e H K = (match x.ev e with
    | .fp y => ldOk ag sz y ∧ K y
    | .op id ver p => (match H[id]? with
      | some (.obj v x) => v = ver ∧ (match getP p x with | some y => ldOk ag sz y ∧ K y | none => False)
      | _ => False)
    | _ => False) := by_refl rfl
theorem p_fieldA {i : Nat} {off : Nat} {x : Opd} {K : TV → Prop} : pop (.fieldA i off x) e H K = (match x.ev e with
    | .op id ver p => K (.op id ver (p ++ [(i, off)]))
    | .fp (.agg cs) => widths (cs.take i) = off ∧ (match cs[i]? with | some y => K (.fp y) | none => False)
    | _ => False) := by_refl rfl
theorem p_field {ag : Bool} {sz : Nat} {i : Nat} {off : Nat} {x : Opd} {K : TV → Prop} : pop (.field ag sz i off x) e H K = (match x.ev e with
    | .agg cs => widths (cs.take i) = off ∧ (match cs[i]? with | some y => ldOk ag sz y ∧ K y | none => False)
    | _ => False) := by_refl rfl
theorem p_idxA {k : Nat} {x : Opd} {i : Opd} {K : TV → Prop} : pop (.idxA k x i) e H K = (match x.ev e, i.ev e with
    | .sl k' cs, .val (.int _ j) => k' = k ∧ 0 ≤ j ∧ (match cs[j.toNat]? with | some y => K (.fp y) | none => False)
    | .os k' id ver p off n cp, .val (.int _ j) => k' = k ∧ 0 ≤ j ∧ j < n ∧ K (.op id ver (p ++ [(off + j.toNat, (off + j.toNat) * k)]))
    | _, _ => False) := by_refl rfl
theorem p_idxAA {n : Nat} {k : Nat} {x : Opd} {i : Opd} {K : TV → Prop} : pop (.idxAA n k x i) e H K = (match x.ev e, i.ev e with
    | .fp (.arr n' k' cs), .val (.int _ j) => k' = k ∧ n' = n ∧ 0 ≤ j ∧ (match cs[j.toNat]? with | some y => K (.fp y) | none => False)
    | .op id ver p, .val (.int _ j) => 0 ≤ j ∧ j < n ∧ K (.op id ver (p ++ [(j.toNat, j.toNat * k)]))
    | _, _ => False) := by_refl rfl
theorem p_idx {ag : Bool} {n : Nat} {k : Nat} {x : Opd} {i : Opd} {K : TV → Prop} : pop (.idx ag n k x i) e H K = (match x.ev e, i.ev e with
    | .arr n' k' cs, .val (.int _ j) => k' = k ∧ n' = n ∧ 0 ≤ j ∧ (match cs[j.toNat]? with | some y => ldOk ag k y ∧ K y | none => False)
    | _, _ => False) := by_refl rfl
theorem p_idxS {x : Opd} {i : Opd} {K : TV → Prop} : pop (.idxS x i) e H K = (match x.ev e, i.ev e with
    | .val (.string s), .val (.int _ j) => 0 ≤ j ∧ (match (bl s)[j.toNat]? with | some b => K (by8 b) | none => False)
    | _, _ => False) := by_refl rfl
theorem p_ext {i : Nat} {x : Opd} {K : TV → Prop} : pop (.ext i x) e H K = (match x.ev e with
    | .tup xs => (match xs[i]? with | some y => K y | none => False)
    | _ => False) := by_refl rfl
theorem p_lenS {x : Opd} {K : TV → Prop} : pop (.lenS x) e H K = (match x.ev e with
    | .val (.string s) => K (.val (.int .i64 (bl s).length))
    | _ => False) := by_refl rfl
theorem p_lenV {x : Opd} {K : TV → Prop} : pop (.lenV x) e H K = (match x.ev e with
    | .val (.slice _ n _) => K (.val (.int .i64 n))
    | .sl _ cs => K (.val (.int .i64 cs.length))
    | .os _ _ _ _ _ n _ => K (.val (.int .i64 n))
    | _ => False) := by_refl rfl
theorem p_slS {x : Opd} {lo : Option Opd} {hi : Option Opd} {K : TV → Prop} : pop (.slS x lo hi) e H K = (match x.ev e with
    | .val (.string s) => bnd e lo hi (bl s).length (bl s).length fun l h => K (.val (.string (str (((bl s).drop l).take (h - l)))))
    | _ => False) := by_refl rfl
theorem p_slV {k : Nat} {x : Opd} {lo : Option Opd} {hi : Option Opd} {K : TV → Prop} : pop (.slV k x lo hi) e H K = (match x.ev e with
    | .sl k' cs => k' = k ∧ bnd e lo hi cs.length cs.length fun l h => K (.sl k ((cs.drop l).take (h - l)))
    | .os k' id ver p off n cp => k' = k ∧ bnd e lo hi n cp fun l h => K (.os k id ver p (off + l) (h - l) (cp - l))
    | .val (.slice ad 0 0) => bnd e lo hi 0 0 fun l h => K (.val (.slice ad 0 0))
    | _ => False) := by_refl rfl
theorem p_slA {n : Nat} {k : Nat} {x : Opd} {lo : Option Opd} {hi : Option Opd} {K : TV → Prop} : pop (.slA n k x lo hi) e H K = (match x.ev e with
    | .fp (.arr n' k' cs) => k' = k ∧ n' = n ∧ n ≤ 9223372036854775807 ∧ bnd e lo hi n n fun l h => K (.sl k ((cs.drop l).take (h - l)))
    | .op id ver p => (match H[id]? with
      | some (.obj v x) => v = ver ∧ n ≤ 9223372036854775807 ∧ (match getP p x with | some (.arr n' k' cs) => k' = k ∧ n' = n ∧ bnd e lo hi n n fun l h => K (.os k id ver p l (h - l) (n - l)) | _ => False)
      | _ => False)
    | _ => False) := by_refl rfl
theorem p_iface {t : TypeId} {x : Opd} {K : TV → Prop} : pop (.iface t x) e H K = (lays (x.ev e) = true ∧ K (.ifc t (x.ev e))) := by_refl rfl
theorem p_mkf {f : Fn} {first : List Opd} {caps : List Opd} {K : TV → Prop} : pop (.mkf f first caps) e H K = ((∀ x ∈ first ++ caps, isTup (x.ev e) = false) ∧ K (.fn f (first.map (·.ev e)) (caps.map (·.ev e)))) := by_refl rfl
theorem p_nilc {x : Opd} {K : TV → Prop} : pop (.nilc x) e H K = (match x.ev e with
    | .op id ver p => K (.op id ver p)
    | .fp y => K (.fp y)
    | .fn (.func f) a b => K (.fn (.func f) a b)
    | .ifc t y => K (.ifc t y)
    | .val (.func (.func f) a b) => K (.val (.func (.func f) a b))
    | _ => False) := by_refl rfl
theorem p_min {x : Opd} {y : Opd} {K : TV → Prop} : pop (.min x y) e H K = (match x.ev e, y.ev e with
    | .val (.int k a), .val (.int _ b) => K (.val (.int k (if b < a then b else a)))
    | _, _ => False) := by_refl rfl
theorem p_max {x : Opd} {y : Opd} {K : TV → Prop} : pop (.max x y) e H K = (match x.ev e, y.ev e with
    | .val (.int k a), .val (.int _ b) => K (.val (.int k (if b > a then b else a)))
    | _, _ => False) := by_refl rfl
theorem p_gen {g : GOp} {xs : List Opd} {K : TV → Prop} : pop (.gen g xs) e H K = (match gev g H (xs.map (·.ev e)) with
    | some y => K y
    | none => False) := by_refl rfl
theorem p_eqB {x : Opd} {y : Opd} {neg : Bool} {K : TV → Prop} : pop (.eqB x y neg) e H K = (match x.ev e, y.ev e with
    | .val (.bool a), .val (.bool b) => K (.val (.bool (xor neg (a == b))))
    | _, _ => False) := by_refl rfl
theorem p_eqN {kd : Nat} {x : Opd} {y : Opd} {neg : Bool} {K : TV → Prop} : pop (.eqN kd x y neg) e H K = (match ptrNil kd (x.ev e), ptrNil kd (y.ev e) with
    | some true, some b => K (.val (.bool (xor neg b)))
    | some false, some true => K (.val (.bool (xor neg false)))
    | _, _ => False) := by_refl rfl
theorem p_build {zs : List TV} {szs : List Nat} {ps : List (Nat × Opd)} {K : TV → Prop} : pop (.build zs szs ps) e H K = (fillsOk e szs ps ∧ K (.agg (fills e zs ps))) := by_refl rfl
theorem p_buildA {n : Nat} {k : Nat} {zs : List TV} {ps : List (Nat × Opd)} {K : TV → Prop} : pop (.buildA n k zs ps) e H K = (fillsOk e (List.replicate n k) ps ∧ fillsPure e ps ∧ K (.arr n k (fills e zs ps))) := by_refl rfl
theorem q_alloc {z : TV} {K : TV → List Ob → Prop} : sop P (.alloc z) e H K = (K (.op H.length 0 []) (H ++ [.obj 0 z])) := by_refl rfl
theorem q_box {x : Opd} {K : TV → List Ob → Prop} : sop P (.box x) e H K = (lays (x.ev e) = true ∧ K (.op H.length 0 []) (H ++ [.obj 0 (x.ev e)])) := by_refl rfl
theorem q_bslice {k : Nat} {n : Nat} {z : TV} {ps : List (Nat × Opd)} {K : TV → List Ob → Prop} : sop P (.bslice k n z ps) e H K = ((fillsOk e (List.replicate n k) ps ∧ fillsPure e ps ∧ n ≤ 1000) ∧ K (.os k H.length 0 [] 0 n n) (H ++ [.obj 0 (.arr n k (fills e (List.replicate n z) ps))])) := by_refl rfl
theorem q_store {sz : Nat} {x : Opd} {v : Opd} {K : TV → List Ob → Prop} : sop P (.store sz x v) e H K = ((lays (v.ev e) = true ∧ width (v.ev e) = sz) ∧ (match x.ev e with
    | .op id ver p => (match H[id]? with
      | some (.obj vr y) => vr = ver ∧ (match setP p y (v.ev e) with | some y' => K .any (H.set id (.obj ver y')) | none => False)
      | _ => False)
    | _ => False)) := by_refl rfl
theorem q_mks {k : Nat} {bytes : Nat} {z : TV} {l : Opd} {c : Opd} {K : TV → List Ob → Prop} : sop P (.mks k bytes z l c) e H K = (match l.ev e, c.ev e with
    | .val (.int _ l), .val (.int _ c) => (0 ≤ l ∧ l ≤ c ∧ (bytes : Int) * c ≤ 281474976710656 ∧ c ≤ 9223372036854775807) ∧ K (.os k H.length 0 [] 0 l.toNat c.toNat) (H ++ [.obj 0 (.arr c.toNat k (List.replicate c.toNat z))])
    | _, _ => False) := by_refl rfl
theorem q_app {k : Nat} {bytes : Nat} {et : TypeId} {x : Opd} {y : Opd} {K : TV → List Ob → Prop} : sop P (.app k bytes et x y) e H K = (match elemsOf H k (y.ev e) with
    | some ys => appTo k bytes et (x.ev e) ys H K
    | none => False) := by_refl rfl
theorem q_appS {et : TypeId} {x : Opd} {y : Opd} {K : TV → List Ob → Prop} : sop P (.appS et x y) e H K = (match y.ev e with
    | .val (.string s) => appTo 1 1 et (x.ev e) ((bl s).map by8) H K
    | _ => False) := by_refl rfl
theorem q_copy {k : Nat} {x : Opd} {y : Opd} {K : TV → List Ob → Prop} : sop P (.copy k x y) e H K = (match elemsOf H k (y.ev e) with
    | some ys => copyTo k (x.ev e) ys H K
    | none => False) := by_refl rfl
theorem q_copyS {x : Opd} {y : Opd} {K : TV → List Ob → Prop} : sop P (.copyS x y) e H K = (match y.ev e with
    | .val (.string s) => copyTo 1 (x.ev e) ((bl s).map by8) H K
    | _ => False) := by_refl rfl
theorem q_s2b {x : Opd} {K : TV → List Ob → Prop} : sop P (.s2b x) e H K = (match x.ev e with
    | .val (.string s) => (bl s).length ≤ 9223372036854775807 ∧ K (.os 1 H.length 0 [] 0 (bl s).length (bl s).length) (H ++ [.obj 0 (.arr (bl s).length 1 ((bl s).map by8))])
    | _ => False) := by_refl rfl
theorem q_call {f : FuncId} {args : List Opd} {K : TV → List Ob → Prop} : sop P (.call f args) e H K = ((∀ x ∈ args, isTup (x.ev e) = false) ∧ VCalls P f (args.map (·.ev e)) H K) := by_refl rfl
theorem q_callv {x : Opd} {args : List Opd} {K : TV → List Ob → Prop} : sop P (.callv x args) e H K = ((∀ x ∈ args, isTup (x.ev e) = false) ∧ (match x.ev e with
    | .fn (.func f) first caps => isGo P f = true ∧ VCalls P f (first ++ args.map (·.ev e) ++ caps) H K
    | .val (.func (.func f) xs ys) => (xs.isEmpty && ys.isEmpty) = true ∧ isGo P f = true ∧ VCalls P f (args.map (·.ev e)) H K
    | .yl id ver => VYield P id ver (args.map (·.ev e)) H K
    | _ => False)) := by_refl rfl
theorem v_ops {l : List VO} {kp : List Nat} {Q : VEx → Env → List Ob → Prop} : vwp P (.ops l kp) Q e H = (vops P l (fun e H => Q .nor (forget kp e) H) e H) := by_refl rfl
theorem v_draw {n : Nat} {l : List VO} {kp : List Nat} {Q : VEx → Env → List Ob → Prop} : vwp P (.draw n l kp) Q e H = (vq P (l.take n) (fun e => vops P (l.drop n) (fun e H => Q .nor (forget kp e) H) e H) e H) := by_refl rfl
theorem v_skip  {Q : VEx → Env → List Ob → Prop} : vwp P (.skip ) Q e H = (Q .nor e H) := by_refl rfl
theorem v_seq {a : VCode} {b : VCode} {Q : VEx → Env → List Ob → Prop} : vwp P (.seq a b) Q e H = (vwp P a (fun x e H => match x with | .nor => vwp P b Q e H | .exit i => Q (.exit i) e H | .ret => Q .ret e H) e H) := by_refl rfl
theorem v_cond {c : Opd} {a : VCode} {b : VCode} {Q : VEx → Env → List Ob → Prop} : vwp P (.cond c a b) Q e H = (match c.ev e with
    | .val (.bool t) => if t = true then vwp P a Q e H else vwp P b Q e H
    | _ => False) := by_refl rfl
theorem v_block {id : Nat} {c : VCode} {Q : VEx → Env → List Ob → Prop} : vwp P (.block id c) Q e H = (vwp P c (fun x e H => match x with | .nor => Q .nor e H | .exit i => if i = id then Q .nor e H else Q (.exit i) e H | .ret => Q .ret e H) e H) := by_refl rfl
theorem v_loop {lv : List Nat} {c : VCode} {Q : VEx → Env → List Ob → Prop} {H0 : List Ob} : vwp P (.loop lv c) Q e H0 = (∃ (I : Nat → Env → List Ob → Prop) (n : Nat), I n (forget lv e) H0 ∧
      ∀ n e H, I n e H → vwp P c (fun x e H => match x with | .nor => ∃ m g, m < n ∧ (H0.length ≤ g ∧ (H.length ≤ g ∨ (belowE g (forget lv e) = true ∧ belowH g (H.take g) = true))) ∧ I m (forget lv e) (H.take g) | .exit i => Q (.exit i) e H | .ret => Q .ret e H) e H) := by_refl rfl
theorem v_exit {id : Nat} {Q : VEx → Env → List Ob → Prop} : vwp P (.exit id) Q e H = (Q (.exit id) e H) := by_refl rfl
theorem v_ret  {Q : VEx → Env → List Ob → Prop} : vwp P (.ret ) Q e H = (Q .ret e H) := by_refl rfl
theorem v_scope {c : VCode} {Q : VEx → Env → List Ob → Prop} : vwp P (.scope c) Q e H = (vwp P c Q e H) := by_refl rfl
theorem v_own {s k : Nat} {c : VCode} {Q : VEx → Env → List Ob → Prop} : vwp P (.own s k c) Q e H = (match get e s with
    | .val (.slice none 0 0) => vwp P c Q ((s, .os k H.length 0 [] 0 0 0) :: e) (H ++ [.obj 0 (.arr 0 k [])])
    | _ => vwp P c Q e H) := by_refl rfl
theorem v_ownB {s k : Nat} {p : List (Nat × Nat)} {c : VCode} {Q : VEx → Env → List Ob → Prop} : vwp P (.ownB s p k c) Q e H = (match get e s with
    | .op id ver p0 => (match H[id]? with
      | some (.obj v x) => v = ver ∧ (match getP (p0 ++ p) x with
        | some (.val (.slice none 0 0)) => (match setP (p0 ++ p) x (.os k H.length 0 [] 0 0 0) with
          | some x' => vwp P c Q e (H.set id (.obj ver x') ++ [.obj 0 (.arr 0 k [])])
          | none => False)
        | _ => vwp P c Q e H)
      | _ => False)
    | _ => False) := by_refl rfl
theorem v_ownT {s : Nat} {t : TypeId} {p : List (Nat × Nat)} {c : VCode} {Q : VEx → Env → List Ob → Prop} : vwp P (.ownT s p t c) Q e H = (match get e s with
    | .op id ver p0 => (match H[id]? with
      | some (.obj v x) => v = ver ∧ (match getP (p0 ++ p) x with
        | some (.val (.slice none 0 0)) => (match setP (p0 ++ p) x (.os 1 H.length 0 [] 0 0 0) with
          | some x' => vwp P c Q e (H.set id (.obj ver x') ++ [.bld 0 t []])
          | none => False)
        | _ => vwp P c Q e H)
      | _ => False)
    | _ => False) := by_refl rfl
theorem vops_nil {K : Env → List Ob → Prop} : vops P [] K e H = K e H := by_refl rfl
theorem vops_p {d : Nat} {o : POp} {r : List VO} {K : Env → List Ob → Prop} : vops P (⟨some d, .p o, none⟩ :: r) K e H = pop o e H fun x => vops P r K ((d, x) :: e) H := by_refl rfl
theorem vops_s {d : Nat} {o : SOp} {r : List VO} {K : Env → List Ob → Prop} : vops P (⟨some d, .s o, none⟩ :: r) K e H = sop P o e H fun x H => vops P r K ((d, x) :: e) H := by_refl rfl
theorem vops_s0 {o : SOp} {r : List VO} {K : Env → List Ob → Prop} : vops P (⟨none, .s o, none⟩ :: r) K e H = sop P o e H fun x H => vops P r K e H := by_refl rfl
theorem vops_g {d s : Nat} {o : VOp} {b : Bool} {r : List VO} {K : Env → List Ob → Prop} : vops P (⟨some d, o, some (s, b)⟩ :: r) K e H = knowB e s fun e q => match q with
  | some t => if t = b then vop P o e H (fun x H => vops P r K ((d, x) :: e) H) else vops P r K ((d, .val undef) :: e) H
  | none => vops P r K ((d, .val undef) :: e) H := by_refl rfl
theorem know_is {s : Nat} {Q : Env → Option Bool → Prop} : knowB e s Q = (match get e s with
  | .val v => Q e (isB v)
  | .any => (∀ t, Q ((s, .val (.bool t)) :: e) (some t)) ∧ ∀ v, isB v = none → Q ((s, .val v) :: e) none
  | _ => False) := by_refl rfl
theorem isB_bool {b : Bool} : isB (.bool b) = some b := by_refl rfl
theorem isB_undef : isB undef = none := by_refl rfl
theorem vop_p {o : POp} {K : TV → List Ob → Prop} : vop P (.p o) e H K = pop o e H fun x => K x H := by_refl rfl
theorem vop_s {o : SOp} {K : TV → List Ob → Prop} : vop P (.s o) e H K = sop P o e H K := by_refl rfl
theorem vq_nil {K : Env → Prop} : vq P [] K e H = K e := by_refl rfl
theorem vq_p {d : Nat} {o : POp} {r : List VO} {K : Env → Prop} : vq P (⟨some d, .p o, none⟩ :: r) K e H = pop o e H fun x => vq P r K ((d, x) :: e) H := by_refl rfl
theorem vq_c {d : Nat} {f : FuncId} {args : List Opd} {r : List VO} {K : Env → Prop} : vq P (⟨some d, .s (.call f args), none⟩ :: r) K e H = ((∀ x ∈ args, isTup (x.ev e) = false) ∧ ∃ x, VCalls P f (args.map (·.ev e)) H (fun y H' => y = x ∧ H' = H) ∧ vq P r K ((d, x) :: e) H) := by_refl rfl
theorem vq_g {d s : Nat} {o : VOp} {b : Bool} {r : List VO} {K : Env → Prop} : vq P (⟨some d, o, some (s, b)⟩ :: r) K e H = (match get e s with
  | .val (.bool t) => if t = b then quiet P o e H (fun x => vq P r K ((d, x) :: e) H) else vq P r K ((d, .val undef) :: e) H
  | .val _ => vq P r K ((d, .val undef) :: e) H
  | _ => False) := by
  show (match get e s with | .val v => if isB v = some b then quiet P o e H (fun x => vq P r K ((d, x) :: e) H) else vq P r K ((d, .val undef) :: e) H | _ => False) = _
  cases get e s with
  | val v => cases v <;> simp [isB]
  | _ => rfl
theorem quiet_p {o : POp} {k : TV → Prop} : quiet P (.p o) e H k = pop o e H k := by_refl rfl
theorem quiet_c {f : FuncId} {args : List Opd} {k : TV → Prop} : quiet P (.s (.call f args)) e H k = ((∀ x ∈ args, isTup (x.ev e) = false) ∧ ∃ x, VCalls P f (args.map (·.ev e)) H (fun y H' => y = x ∧ H' = H) ∧ k x) := by_refl rfl
/-! Numbers. -/
variable {t : TypeId} {a b : Int} {k : IntKind}
theorem wrap64_id {n : Int} (h1 : -9223372036854775808 ≤ n) (h2 : n ≤ 9223372036854775807) : IntKind.i64.wrap n = n := by rw [IntKind.wrap_i64]; omega
theorem b_add (h1 : -9223372036854775808 ≤ a + b) (h2 : a + b ≤ 9223372036854775807) : binV t .add (.int .i64 a) (.int .i64 b) = some (.int .i64 (a + b)) := by
  rw [show binV t .add (.int .i64 a) (.int .i64 b) = some (.int .i64 (IntKind.i64.wrap (a + b))) from rfl, wrap64_id h1 h2]
theorem b_sub (h1 : -9223372036854775808 ≤ a - b) (h2 : a - b ≤ 9223372036854775807) : binV t .sub (.int .i64 a) (.int .i64 b) = some (.int .i64 (a - b)) := by
  rw [show binV t .sub (.int .i64 a) (.int .i64 b) = some (.int .i64 (IntKind.i64.wrap (a - b))) from rfl, wrap64_id h1 h2]
theorem b_mul (h1 : -9223372036854775808 ≤ a * b) (h2 : a * b ≤ 9223372036854775807) : binV t .mul (.int .i64 a) (.int .i64 b) = some (.int .i64 (a * b)) := by
  rw [show binV t .mul (.int .i64 a) (.int .i64 b) = some (.int .i64 (IntKind.i64.wrap (a * b))) from rfl, wrap64_id h1 h2]
theorem b_eql : binV t .eql (.int k a) (.int k b) = some (.bool (decide (a = b))) := by
  rw [show binV t .eql (.int k a) (.int k b) = some (.bool (a == b)) from by simp [binV, binOp, Op.intCmp]; rfl]; rfl
theorem b_neq : binV t .neq (.int k a) (.int k b) = some (.bool (!decide (a = b))) := by
  rw [show binV t .neq (.int k a) (.int k b) = some (.bool (a != b)) from by simp [binV, binOp, Op.intCmp]; rfl]; rfl
theorem b_lss : binV t .lss (.int k a) (.int k b) = some (.bool (decide (a < b))) := by simp [binV, binOp, Op.intCmp]; rfl
theorem b_leq : binV t .leq (.int k a) (.int k b) = some (.bool (decide (a ≤ b))) := by simp [binV, binOp, Op.intCmp]; rfl
theorem b_gtr : binV t .gtr (.int k a) (.int k b) = some (.bool (decide (b < a))) := by simp [binV, binOp, Op.intCmp]; rfl
theorem b_geq : binV t .geq (.int k a) (.int k b) = some (.bool (decide (b ≤ a))) := by simp [binV, binOp, Op.intCmp]; rfl
theorem ptrNil_p0 : ptrNil 0 (.val (.pointer none)) = some true := by_refl rfl
theorem ptrNil_op {i v : Nat} {p : List (Nat × Nat)} : ptrNil 0 (.op i v p) = some false := by_refl rfl
theorem ptrNil_fp {x : TV} : ptrNil 0 (.fp x) = some false := by_refl rfl
theorem ptrNil_i0 : ptrNil 1 (.val .nilIface) = some true := by_refl rfl
theorem ptrNil_ifc {t : TypeId} {x : TV} : ptrNil 1 (.ifc t x) = some false := by_refl rfl
theorem ptrNil_m0 : ptrNil 2 (.val (.map none)) = some true := by_refl rfl
theorem ptrNil_mp {i v : Nat} : ptrNil 2 (.mp i v) = some false := by_refl rfl
theorem ptrNil_yl {i v : Nat} : ptrNil 3 (.yl i v) = some false := by_refl rfl
theorem ptrNil_f0 : ptrNil 3 (.val .nilFunc) = some true := by_refl rfl
theorem ptrNil_fn {f : Fn} {a b : List TV} : ptrNil 3 (.fn f a b) = some false := by_refl rfl
theorem all_cons {α : Type} {p : α → Prop} {a : α} {l : List α} : (∀ x ∈ a :: l, p x) = (p a ∧ ∀ x ∈ l, p x) := propext List.forall_mem_cons
theorem all_nil {α : Type} {p : α → Prop} : (∀ x ∈ ([] : List α), p x) = True := propext ⟨fun _ => trivial, fun _ x h => by cases h⟩
theorem bvOf {n : Int} (h0 : 0 ≤ n) (h1 : n < 18446744073709551616) : (BitVec.ofInt 64 n).toNat = n.toNat := by
  rw [BitVec.toNat_ofInt]
  have : n % ((2 ^ 64 : Nat) : Int) = n := Int.emod_eq_of_lt h0 (by simpa using h1)
  rw [this]
theorem b_and (h1 : 0 ≤ a) (h2 : a ≤ 9223372036854775807) (h3 : 0 ≤ b) (h4 : b ≤ 9223372036854775807) : binV t .and (.int .i64 a) (.int .i64 b) = some (.int .i64 ((a.toNat &&& b.toNat : Nat) : Int)) := by
  rw [show binV t .and (.int .i64 a) (.int .i64 b) = some (.int .i64 (IntKind.i64.wrap ((BitVec.ofInt 64 a &&& BitVec.ofInt 64 b).toNat : Int))) from rfl, BitVec.toNat_and, bvOf h1 (by omega), bvOf h3 (by omega)]
  have := Nat.and_le_left (n := a.toNat) (m := b.toNat)
  rw [wrap64_id (by omega) (by omega)]
theorem b_or (h1 : 0 ≤ a) (h2 : a ≤ 9223372036854775807) (h3 : 0 ≤ b) (h4 : b ≤ 9223372036854775807) : binV t .or (.int .i64 a) (.int .i64 b) = some (.int .i64 ((a.toNat ||| b.toNat : Nat) : Int)) := by
  rw [show binV t .or (.int .i64 a) (.int .i64 b) = some (.int .i64 (IntKind.i64.wrap ((BitVec.ofInt 64 a ||| BitVec.ofInt 64 b).toNat : Int))) from rfl, BitVec.toNat_or, bvOf h1 (by omega), bvOf h3 (by omega)]
  have := Nat.or_lt_two_pow (n := 63) (x := a.toNat) (y := b.toNat) (by omega) (by omega)
  rw [wrap64_id (by omega) (by omega)]
theorem b_shl {k2 : IntKind} (h1 : 0 ≤ b) (h2 : b ≤ 63) (h3 : 0 ≤ a * 2 ^ b.toNat) (h4 : a * 2 ^ b.toNat ≤ 9223372036854775807) : binV t .shl (.int .i64 a) (.int k2 b) = some (.int .i64 (a * 2 ^ b.toNat)) := by
  have e : binOp .shl t (.int .i64 a) (.int k2 b) = pure (.int .i64 (a * 2 ^ b.toNat)) := by
    show Op.shift .shl .i64 a k2 b = _
    unfold Op.shift
    rw [if_neg (by omega)]
    have hm : min b.toNat IntKind.i64.bits = b.toNat := by
      have : IntKind.i64.bits = 64 := rfl
      omega
    simp only [hm]
    rw [wrap64_id (by omega) h4]
  unfold binV; rw [e]; rfl
theorem b_shr {k2 : IntKind} (h1 : 0 ≤ b) (h2 : b ≤ 63) (h3 : 0 ≤ a) : binV t .shr (.int .i64 a) (.int k2 b) = some (.int .i64 (a / 2 ^ b.toNat)) := by
  have e : binOp .shr t (.int .i64 a) (.int k2 b) = pure (.int .i64 (a / 2 ^ b.toNat)) := by
    show Op.shift .shr .i64 a k2 b = _
    unfold Op.shift
    rw [if_neg (by omega)]
    have hm : min b.toNat IntKind.i64.bits = b.toNat := by
      have : IntKind.i64.bits = 64 := rfl
      omega
    simp only [hm]
    rw [Int.fdiv_eq_ediv_of_nonneg _ (by exact Int.le_of_lt (Int.pow_pos (by omega)))]
  unfold binV; rw [e]; rfl
theorem b_rem (h1 : 0 ≤ a) (h2 : b ≠ 0) : binV t .rem (.int k a) (.int k b) = some (.int k (a % b)) := by
  have e : binOp .rem t (.int k a) (.int k b) = pure (.int k (a % b)) := by
    unfold binOp
    simp only [ne_eq, not_true_eq_false, if_false, Op.intDiv, h2, Int.tmod_eq_emod_of_nonneg h1]
  unfold binV; rw [e]; rfl
theorem b_quo (h1 : 0 ≤ a) (h2 : 0 < b) (h3 : a ≤ 9223372036854775807) : binV t .quo (.int .i64 a) (.int .i64 b) = some (.int .i64 (a / b)) := by
  have e : binOp .quo t (.int .i64 a) (.int .i64 b) = pure (.int .i64 (a / b)) := by
    unfold binOp
    simp only [ne_eq, not_true_eq_false, if_false, Op.intDiv, show ¬ b = 0 from by omega, Int.tdiv_eq_ediv_of_nonneg h1]
    have h4 : a / b ≤ a := Int.ediv_le_self _ h1
    have h5 : 0 ≤ a / b := Int.ediv_nonneg h1 (by omega)
    rw [wrap64_id (by omega) (by omega)]
  unfold binV; rw [e]; rfl
theorem b_xor8 {x y : UInt8} : binV t .xor (.int .u8 (x.toNat : Int)) (.int .u8 (y.toNat : Int)) = some (.int .u8 ((x ^^^ y).toNat : Int)) := by
  rw [show binV t .xor (.int .u8 (x.toNat : Int)) (.int .u8 (y.toNat : Int)) = some (.int .u8 (IntKind.u8.wrap ((BitVec.ofInt 8 (x.toNat : Int) ^^^ BitVec.ofInt 8 (y.toNat : Int)).toNat : Int))) from rfl]
  rw [BitVec.ofInt_natCast, BitVec.ofInt_natCast, UInt8.toNat_xor, BitVec.toNat_xor, BitVec.toNat_ofNat, BitVec.toNat_ofNat, Nat.mod_eq_of_lt x.toNat_lt, Nat.mod_eq_of_lt y.toNat_lt]
  have := Nat.xor_lt_two_pow (n := 8) x.toNat_lt y.toNat_lt
  rw [IntKind.wrap_u8]; congr 2; omega
theorem toList_str (l : List UInt8) : (str l).toList = l := by simp [str, ByteArray.toList_eq]
theorem list_beq {l m : List UInt8} : (l == m) = decide (l = m) := by
  by_cases h : l = m <;> simp [h]
theorem s_eql {l m : List UInt8} : binV t .eql (.string (str l)) (.string (str m)) = some (.bool (decide (l = m))) := by
  rw [show binV t .eql (.string (str l)) (.string (str m)) = some (.bool ((str l).toList == (str m).toList)) from rfl, toList_str, toList_str, list_beq]
theorem s_neq {l m : List UInt8} : binV t .neq (.string (str l)) (.string (str m)) = some (.bool (!decide (l = m))) := by
  rw [show binV t .neq (.string (str l)) (.string (str m)) = some (.bool (!((str l).toList == (str m).toList))) from rfl, toList_str, toList_str, list_beq]
theorem u_not {b : Bool} : unV .not (.bool b) = some (.bool (!b)) := by_refl rfl
theorem calm_int {u : Value} : calm (.int k a) u = true := by cases u <;> rfl
theorem calm_str {s : ByteArray} {u : Value} : calm (.string s) u = true := by cases u <;> rfl

/-! words, constructor by constructor -/
theorem isAg_val {v : Value} : isAg (TV.val v) = false := by_refl rfl
theorem isAg_any  : isAg (TV.any) = false := by_refl rfl
theorem isAg_sl {k : Nat} {cs : List TV} : isAg (TV.sl k cs) = false := by_refl rfl
theorem isAg_fp {x : TV} : isAg (TV.fp x) = false := by_refl rfl
theorem isAg_op {i : Nat} {v : Nat} {p : List (Nat × Nat)} : isAg (TV.op i v p) = false := by_refl rfl
theorem isAg_os {k : Nat} {i : Nat} {v : Nat} {p : List (Nat × Nat)} {o : Nat} {n : Nat} {cp : Nat} : isAg (TV.os k i v p o n cp) = false := by_refl rfl
theorem isAg_agg {cs : List TV} : isAg (TV.agg cs) = true := by_refl rfl
theorem isAg_arr {n : Nat} {k : Nat} {cs : List TV} : isAg (TV.arr n k cs) = true := by_refl rfl
theorem isAg_tup {vs : List TV} : isAg (TV.tup vs) = false := by_refl rfl
theorem isAg_ifc {t : TypeId} {x : TV} : isAg (TV.ifc t x) = false := by_refl rfl
theorem isAg_fn {f : Fn} {a : List TV} {b : List TV} : isAg (TV.fn f a b) = false := by_refl rfl
theorem isAg_mp {i : Nat} {v : Nat} : isAg (TV.mp i v) = false := by_refl rfl
theorem isAg_yl {i : Nat} {v : Nat} : isAg (TV.yl i v) = false := by_refl rfl
theorem isTup_val {v : Value} : isTup (TV.val v) = false := by_refl rfl
theorem isTup_any  : isTup (TV.any) = false := by_refl rfl
theorem isTup_sl {k : Nat} {cs : List TV} : isTup (TV.sl k cs) = false := by_refl rfl
theorem isTup_fp {x : TV} : isTup (TV.fp x) = false := by_refl rfl
theorem isTup_op {i : Nat} {v : Nat} {p : List (Nat × Nat)} : isTup (TV.op i v p) = false := by_refl rfl
theorem isTup_os {k : Nat} {i : Nat} {v : Nat} {p : List (Nat × Nat)} {o : Nat} {n : Nat} {cp : Nat} : isTup (TV.os k i v p o n cp) = false := by_refl rfl
theorem isTup_agg {cs : List TV} : isTup (TV.agg cs) = false := by_refl rfl
theorem isTup_arr {n : Nat} {k : Nat} {cs : List TV} : isTup (TV.arr n k cs) = false := by_refl rfl
theorem isTup_tup {vs : List TV} : isTup (TV.tup vs) = true := by_refl rfl
theorem isTup_ifc {t : TypeId} {x : TV} : isTup (TV.ifc t x) = false := by_refl rfl
theorem isTup_fn {f : Fn} {a : List TV} {b : List TV} : isTup (TV.fn f a b) = false := by_refl rfl
theorem isTup_mp {i : Nat} {v : Nat} : isTup (TV.mp i v) = false := by_refl rfl
theorem isTup_yl {i : Nat} {v : Nat} : isTup (TV.yl i v) = false := by_refl rfl
theorem lays_any  : lays (TV.any) = false := by_refl rfl
theorem lays_sl {k : Nat} {cs : List TV} : lays (TV.sl k cs) = true := by_refl rfl
theorem lays_fp {x : TV} : lays (TV.fp x) = true := by_refl rfl
theorem lays_op {i : Nat} {v : Nat} {p : List (Nat × Nat)} : lays (TV.op i v p) = true := by_refl rfl
theorem lays_os {k : Nat} {i : Nat} {v : Nat} {p : List (Nat × Nat)} {o : Nat} {n : Nat} {cp : Nat} : lays (TV.os k i v p o n cp) = true := by_refl rfl
theorem lays_agg {cs : List TV} : lays (TV.agg cs) = true := by_refl rfl
theorem lays_arr {n : Nat} {k : Nat} {cs : List TV} : lays (TV.arr n k cs) = true := by_refl rfl
theorem lays_tup {vs : List TV} : lays (TV.tup vs) = false := by_refl rfl
theorem lays_ifc {t : TypeId} {x : TV} : lays (TV.ifc t x) = true := by_refl rfl
theorem lays_fn {f : Fn} {a : List TV} {b : List TV} : lays (TV.fn f a b) = true := by_refl rfl
theorem lays_mp {i : Nat} {v : Nat} : lays (TV.mp i v) = true := by_refl rfl
theorem lays_yl {i : Nat} {v : Nat} : lays (TV.yl i v) = true := by_refl rfl
theorem pureT_val {v : Value} : pureT (TV.val v) = true := by_refl rfl
theorem pureT_any  : pureT (TV.any) = true := by_refl rfl
theorem pureT_sl {k : Nat} {cs : List TV} : pureT (TV.sl k cs) = true := by_refl rfl
theorem pureT_fp {x : TV} : pureT (TV.fp x) = true := by_refl rfl
theorem pureT_op {i : Nat} {v : Nat} {p : List (Nat × Nat)} : pureT (TV.op i v p) = false := by_refl rfl
theorem pureT_os {k : Nat} {i : Nat} {v : Nat} {p : List (Nat × Nat)} {o : Nat} {n : Nat} {cp : Nat} : pureT (TV.os k i v p o n cp) = false := by_refl rfl
theorem pureT_arr {n : Nat} {k : Nat} {cs : List TV} : pureT (TV.arr n k cs) = true := by_refl rfl
theorem pureT_mp {i : Nat} {v : Nat} : pureT (TV.mp i v) = false := by_refl rfl
theorem pureT_yl {i : Nat} {v : Nat} : pureT (TV.yl i v) = false := by_refl rfl
theorem width_val {v : Value} : width (TV.val v) = 1 := by_refl rfl
theorem width_any  : width (TV.any) = 1 := by_refl rfl
theorem width_sl {k : Nat} {cs : List TV} : width (TV.sl k cs) = 1 := by_refl rfl
theorem width_fp {x : TV} : width (TV.fp x) = 1 := by_refl rfl
theorem width_op {i : Nat} {v : Nat} {p : List (Nat × Nat)} : width (TV.op i v p) = 1 := by_refl rfl
theorem width_os {k : Nat} {i : Nat} {v : Nat} {p : List (Nat × Nat)} {o : Nat} {n : Nat} {cp : Nat} : width (TV.os k i v p o n cp) = 1 := by_refl rfl
theorem width_tup {vs : List TV} : width (TV.tup vs) = 1 := by_refl rfl
theorem width_ifc {t : TypeId} {x : TV} : width (TV.ifc t x) = 1 := by_refl rfl
theorem width_fn {f : Fn} {a : List TV} {b : List TV} : width (TV.fn f a b) = 1 := by_refl rfl
theorem width_mp {i : Nat} {v : Nat} : width (TV.mp i v) = 1 := by_refl rfl
theorem width_yl {i : Nat} {v : Nat} : width (TV.yl i v) = 1 := by_refl rfl
theorem width_agg {cs : List TV} : width (.agg cs) = widths cs := by rw [width]
theorem width_arr {n k : Nat} {cs : List TV} : width (.arr n k cs) = n * k := by rw [width]
theorem widths_nil : widths [] = 0 := by_refl rfl
theorem widths_cons {x : TV} {xs : List TV} : widths (x :: xs) = width x + widths xs := by rw [widths]
theorem pureT_agg {cs : List TV} : pureT (.agg cs) = pureL cs := by rw [pureT]
theorem pureT_ifc {t : TypeId} {x : TV} : pureT (.ifc t x) = pureT x := by rw [pureT]
theorem pureT_tup {cs : List TV} : pureT (.tup cs) = pureL cs := by rw [pureT]
theorem pureL_nil : pureL [] = true := by_refl rfl
theorem pureL_cons {x : TV} {xs : List TV} : pureL (x :: xs) = (pureT x && pureL xs) := by rw [pureL]
theorem lays_int {k : IntKind} {n : Int} : lays (.val (.int k n)) = true := by_refl rfl
theorem lays_bool {b : Bool} : lays (.val (.bool b)) = true := by_refl rfl
theorem lays_string {s : ByteArray} : lays (.val (.string s)) = true := by_refl rfl
theorem lays_pointer {p : Option Addr} : lays (.val (.pointer p)) = true := by_refl rfl
theorem lays_slice {p : Option Addr} {n c : Nat} : lays (.val (.slice p n c)) = true := by_refl rfl
theorem lays_map {r : Option Nat} : lays (.val (.map r)) = true := by_refl rfl
theorem lays_func {f : Fn} {a b : Array Value} : lays (.val (.func f a b)) = true := by_refl rfl
theorem lays_nilFunc : lays (.val .nilFunc) = true := by_refl rfl
theorem lays_nilIface : lays (.val .nilIface) = true := by_refl rfl
theorem ev_t {e : Env} {n : Nat} : (Opd.t n).ev e = get e n := by_refl rfl
theorem ev_g {e : Env} {n : Nat} : (Opd.g n).ev e = (match globOf n with | some x => .fp x.tv | none => .val (.pointer (some ⟨n, 0, none⟩))) := by_refl rfl
theorem ev_c {e : Env} {v : Value} : (Opd.c v).ev e = .val v := by_refl rfl
theorem getP_nil {x : TV} : getP [] x = some x := by_refl rfl
theorem getP_agg {i d : Nat} {p : List (Nat × Nat)} {cs : List TV} : getP ((i, d) :: p) (.agg cs) = if widths (cs.take i) = d then (cs[i]?).bind (getP p) else none := by rw [getP]
theorem getP_arr {i d n k : Nat} {p : List (Nat × Nat)} {cs : List TV} : getP ((i, d) :: p) (.arr n k cs) = if d = i * k then (cs[i]?).bind (getP p) else none := by rw [getP]
theorem setP_nil {x y : TV} : setP [] x y = if width y = width x then some y else none := by rw [setP]
theorem setP_agg {i d : Nat} {p : List (Nat × Nat)} {cs : List TV} {y : TV} : setP ((i, d) :: p) (.agg cs) y = if widths (cs.take i) = d then (cs[i]?).bind fun c => (setP p c y).map fun c' => .agg (cs.set i c') else none := by rw [setP]
theorem setP_arr {i d n k : Nat} {p : List (Nat × Nat)} {cs : List TV} {y : TV} : setP ((i, d) :: p) (.arr n k cs) y = if d = i * k ∧ pureT y = true then (cs[i]?).bind fun c => (setP p c y).map fun c' => .arr n k (cs.set i c') else none := by rw [setP]
theorem forget_nil {e : Env} : forget [] e = [] := by_refl rfl
theorem forget_cons {e : Env} {s : Nat} {ks : List Nat} : forget (s :: ks) e = (s, get e s) :: forget ks e := by_refl rfl
theorem argsE_nil {i : Nat} : argsE i [] = [] := by_refl rfl
theorem argsE_cons {i : Nat} {x : TV} {xs : List TV} : argsE i (x :: xs) = (i, x) :: argsE (i + 1) xs := by_refl rfl
theorem ldOk_iff {ag : Bool} {sz : Nat} {y : TV} : ldOk ag sz y = (width y = sz ∧ isAg y = ag) := by_refl rfl
theorem elemsOf_sl {H : List Ob} {k k2 : Nat} {cs : List TV} : elemsOf H k (.sl k2 cs) = if k2 = k then some cs else none := by_refl rfl
theorem elemsOf_nil {H : List Ob} {k : Nat} {p : Option Addr} {n c : Nat} : elemsOf H k (.val (.slice p n c)) = if n = 0 ∧ p.isNone ∧ c = 0 then some [] else none := by_refl rfl
theorem elemsOf_os {H : List Ob} {k k2 i v o n cp : Nat} {p : List (Nat × Nat)} : elemsOf H k (.os k2 i v p o n cp) = if k2 = k then (match H[i]? with | some (.obj vr x) => if vr = v then elemsAt p k o n x else none | _ => none) else none := by_refl rfl
theorem elemsAt_nil {k k2 o n N : Nat} {cs : List TV} : elemsAt [] k o n (.arr N k2 cs) = if k2 = k ∧ o + n ≤ cs.length then some ((cs.drop o).take n) else none := by_refl rfl
theorem fills_nil {e : Env} {zs : List TV} : fills e zs [] = zs := by_refl rfl
theorem fills_cons {e : Env} {zs : List TV} {i : Nat} {x : Opd} {ps : List (Nat × Opd)} : fills e zs ((i, x) :: ps) = fills e (zs.set i (x.ev e)) ps := by_refl rfl
theorem fillsOk_nil {e : Env} {ks : List Nat} : fillsOk e ks [] = True := by_refl rfl
theorem fillsOk_cons {e : Env} {ks : List Nat} {i : Nat} {x : Opd} {ps : List (Nat × Opd)} : fillsOk e ks ((i, x) :: ps) = ((lays (x.ev e) = true ∧ ks[i]? = some (width (x.ev e))) ∧ fillsOk e ks ps) := by_refl rfl
theorem fillsPure_nil {e : Env} : fillsPure e [] = True := by_refl rfl
theorem fillsPure_cons {e : Env} {i : Nat} {x : Opd} {ps : List (Nat × Opd)} : fillsPure e ((i, x) :: ps) = (pureT (x.ev e) = true ∧ fillsPure e ps) := by_refl rfl
theorem res_tmp {t : Nat} {e : Env} {H : List Ob} {K : TV → Prop} : res [.tmp t] e H K = K (get e t) := by_refl rfl
theorem res_cell {a sz : Nat} {ag : Bool} {e : Env} {H : List Ob} {K : TV → Prop} : res [.cell a ag sz] e H K = pop (.load ag sz (.t a)) e H K := by_refl rfl
theorem res_nil {e : Env} {H : List Ob} {K : TV → Prop} : res [] e H K = ((∀ x ∈ ([] : List TV), isTup x = false) ∧ K (.tup [])) := by_refl rfl
theorem res_two {r s : VR} {e : Env} {H : List Ob} {K : TV → Prop} : res [r, s] e H K = resL [r, s] e H fun xs => match xs with | [x] => K x | xs => (∀ x ∈ xs, isTup x = false) ∧ K (.tup xs) := by_refl rfl
theorem res_many {r s : VR} {l : List VR} {e : Env} {H : List Ob} {K : TV → Prop} : res (r :: s :: l) e H K = resL (r :: s :: l) e H fun xs => match xs with | [x] => K x | xs => (∀ x ∈ xs, isTup x = false) ∧ K (.tup xs) := by_refl rfl
theorem resL_nil {e : Env} {H : List Ob} {K : List TV → Prop} : resL [] e H K = K [] := by_refl rfl
theorem resL_tmp {t : Nat} {r : List VR} {e : Env} {H : List Ob} {K : List TV → Prop} : resL (.tmp t :: r) e H K = resL r e H fun xs => K (get e t :: xs) := by_refl rfl
theorem resL_cell {a sz : Nat} {ag : Bool} {r : List VR} {e : Env} {H : List Ob} {K : List TV → Prop} : resL (.cell a ag sz :: r) e H K = pop (.load ag sz (.t a)) e H fun x => resL r e H fun xs => K (x :: xs) := by_refl rfl
theorem atEnd_ret {vr : List VR} {R : TV → List Ob → Prop} {e : Env} {H : List Ob} : atEnd vr R .ret e H = res vr e H fun x => R x H := by_refl rfl
theorem atEnd_nor {vr : List VR} {R : TV → List Ob → Prop} {e : Env} {H : List Ob} : atEnd vr R .nor e H = res vr e H fun x => R x H := by_refl rfl
theorem frzG_val {H : List Ob} {g : TV → Option TV} {v : Value} : frzG H g (TV.val v) = some (.val v) := by rw [frzG]
theorem frzG_any {H : List Ob} {g : TV → Option TV}  : frzG H g (TV.any) = some (.any) := by rw [frzG]
theorem frzG_sl {H : List Ob} {g : TV → Option TV} {k : Nat} {cs : List TV} : frzG H g (TV.sl k cs) = some (.sl k cs) := by rw [frzG]
theorem frzG_fp {H : List Ob} {g : TV → Option TV} {x : TV} : frzG H g (TV.fp x) = some (.fp x) := by rw [frzG]
theorem frzG_arr {H : List Ob} {g : TV → Option TV} {n : Nat} {k : Nat} {cs : List TV} : frzG H g (TV.arr n k cs) = some (.arr n k cs) := by rw [frzG]
theorem frzG_os {H : List Ob} {g : TV → Option TV} {k i v o n cp : Nat} {p : List (Nat × Nat)} : frzG H g (.os k i v p o n cp) = (match H[i]? with | some (.obj vr x) => if vr = v then (elemsAt p k o n x).map (.sl k) else none | _ => none) := by rw [frzG]; rfl
theorem frzG_op {H : List Ob} {g : TV → Option TV} {i v : Nat} {p : List (Nat × Nat)} : frzG H g (.op i v p) = (match H[i]? with | some (.obj vr x) => if vr = v then (getP p x).bind fun y => (g y).map .fp else none | _ => none) := by rw [frzG]; rfl
theorem frzG_agg {H : List Ob} {g : TV → Option TV} {cs : List TV} : frzG H g (.agg cs) = (frzGL H g cs).map .agg := by rw [frzG]
theorem frzG_tup {H : List Ob} {g : TV → Option TV} {cs : List TV} : frzG H g (.tup cs) = (frzGL H g cs).map .tup := by rw [frzG]
theorem frzG_ifc {H : List Ob} {g : TV → Option TV} {t : TypeId} {x : TV} : frzG H g (.ifc t x) = (frzG H g x).map (.ifc t) := by rw [frzG]
theorem frzGL_nil {H : List Ob} {g : TV → Option TV} : frzGL H g [] = some [] := by_refl rfl
theorem frzGL_cons {H : List Ob} {g : TV → Option TV} {x : TV} {xs : List TV} : frzGL H g (x :: xs) = (match frzG H g x, frzGL H g xs with | some x, some xs => some (x :: xs) | _, _ => none) := by rw [frzGL]; rfl
theorem frz_D {H : List Ob} {x : TV} : frz H x = frzG H (frzD H 2) x := by_refl rfl
theorem frzL_D {H : List Ob} {x : List TV} : frzL H x = frzGL H (frzD H 2) x := by_refl rfl
theorem frzD_s {H : List Ob} {d : Nat} {x : TV} : frzD H (d + 1) x = frzG H (frzD H d) x := by_refl rfl
theorem frs_val {H : List Ob} {v : Value} : frs H (.val v) = some (.val v) := by rw [frs]
theorem frs_any {H : List Ob} : frs H .any = some .any := by rw [frs]
theorem frs_os {H : List Ob} {k i v o n cp : Nat} {p : List (Nat × Nat)} : frs H (.os k i v p o n cp) = (match H[i]? with | some (.obj vr x) => if vr = v then (match elemsAt p k o n x with | some cs => if scalL cs then some (.sl k cs) else none | none => none) else none | _ => none) := by rw [frs]; try rfl
theorem frs_agg {H : List Ob} {cs : List TV} : frs H (.agg cs) = (frsL H cs).map .agg := by rw [frs]
theorem frs_arr {H : List Ob} {n k : Nat} {cs : List TV} : frs H (.arr n k cs) = if scalL cs then some (.arr n k cs) else none := by rw [frs]
theorem frs_tup {H : List Ob} {cs : List TV} : frs H (.tup cs) = (frsL H cs).map .tup := by rw [frs]
theorem frs_ifc {H : List Ob} {t : TypeId} {x : TV} : frs H (.ifc t x) = (frs H x).map (.ifc t) := by rw [frs]
theorem frsL_nil {H : List Ob} : frsL H [] = some [] := by rw [frsL]
theorem frsL_cons {H : List Ob} {x : TV} {xs : List TV} : frsL H (x :: xs) = (match frs H x, frsL H xs with | some x, some xs => some (x :: xs) | _, _ => none) := by rw [frsL]; try rfl
theorem scalL_by8 {l : List UInt8} : scalL (l.map by8) = true := by
  induction l with
  | nil => rfl
  | cons x l ih => rw [List.map_cons, scalL, ih]; rfl
theorem scalL_ts {l : List (List UInt8)} : scalL (l.map ts) = true := by
  induction l with
  | nil => rfl
  | cons x l ih => rw [List.map_cons, scalL, ih]; rfl
theorem get_last {H : List Ob} {o : Ob} : (H ++ [o])[H.length]? = some o := by simp
theorem set_last {H : List Ob} {o o' : Ob} : (H ++ [o]).set H.length o' = H ++ [o'] := by simp
theorem map_set8 {l : List UInt8} {i : Nat} {b : UInt8} : (l.map by8).set i (.val (.int .u8 (b.toNat : Int))) = (l.set i b).map by8 := by rw [List.map_set]
theorem map_unby {l : List UInt8} : (l.map by8).map unby = l := by
  rw [List.map_map]
  have : (unby ∘ by8) = id := by funext b; simp
  rw [this, List.map_id]
theorem all_isBy {l : List UInt8} : (∀ y ∈ l.map by8, isBy y) = True := by simp
theorem cast1 {k : Nat} : ((k : Int) + 1) = ((k + 1 : Nat) : Int) := by_refl rfl
theorem cast_add {a b : Nat} : ((a : Int) + (b : Int)) = ((a + b : Nat) : Int) := by omega
theorem cast_lt {a b : Nat} : ((a : Int) < (b : Int)) = (a < b) := by simp
theorem cast_le {a b : Nat} : ((a : Int) ≤ (b : Int)) = (a ≤ b) := by simp
theorem cast_eq {a b : Nat} : ((a : Int) = (b : Int)) = (a = b) := propext ⟨fun h => by omega, fun h => by omega⟩
theorem cast_nn {a : Nat} : (0 ≤ (a : Int)) = True := by simp
theorem u8_eq {x : UInt8} {y : UInt8} : ((x.toNat : Int) = (y.toNat : Int)) = (x = y) := by
  rw [cast_eq]; exact propext ⟨fun h => UInt8.toNat_inj.1 h, fun h => by rw [h]⟩
theorem belowT_op {g id v : Nat} {p : List (Nat × Nat)} : belowT g (.op id v p) = decide (id < g) := by rw [belowT]
theorem belowT_os {g k id v o n cp : Nat} {p : List (Nat × Nat)} : belowT g (.os k id v p o n cp) = decide (id < g) := by rw [belowT]
theorem belowE_nil {g : Nat} : belowE g [] = true := by_refl rfl
theorem belowE_cons {g s : Nat} {x : TV} {e : Env} : belowE g ((s, x) :: e) = (belowT g x && belowE g e) := by_refl rfl
theorem belowT_val {g : Nat} {v : Value} : belowT g (.val v) = true := by_refl rfl
theorem belowT_any {g : Nat} : belowT g .any = true := by_refl rfl
theorem belowT_sl {g k : Nat} {cs : List TV} : belowT g (.sl k cs) = true := by_refl rfl
theorem belowT_fp {g : Nat} {x : TV} : belowT g (.fp x) = true := by_refl rfl
theorem belowT_arr {g n k : Nat} {cs : List TV} : belowT g (.arr n k cs) = true := by_refl rfl
theorem belowT_agg {g : Nat} {cs : List TV} : belowT g (.agg cs) = belowL g cs := by rw [belowT]
theorem belowL_nil {g : Nat} : belowL g [] = true := by_refl rfl
theorem belowL_cons {g : Nat} {x : TV} {xs : List TV} : belowL g (x :: xs) = (belowT g x && belowL g xs) := by rw [belowL]
theorem belowT_yl {g id v : Nat} : belowT g (.yl id v) = decide (id < g) := by rw [belowT]
theorem belowH_nil {g : Nat} : belowH g [] = true := by_refl rfl
theorem belowH_obj {g v : Nat} {x : TV} {H : List Ob} : belowH g (.obj v x :: H) = (belowT g x && belowH g H) := by rw [belowH]; rfl
theorem belowH_gone {g v : Nat} {H : List Ob} : belowH g (.gone v :: H) = belowH g H := by rw [belowH]; simp [belowO]

theorem get_if {d s : Nat} {x : TV} : get ((d, x) :: e) s = if d = s then x else get e s := by_refl rfl
end
end Go.Proofs.YtijidndhlgbjhaaDoor

/- Rules for walks, a second edition: each operation first has its arguments worked out, then looks at them; nothing behind an undecided test is looked at. No program in sight. -/
namespace Go.Proofs.YtijidndhlgbjhaaDoor
open Go.RowKit
variable [Globs]
set_option linter.unusedSectionVars false
set_option linter.unusedSimpArgs false
set_option linter.unusedVariables false
set_option autoImplicit false
universe u
set_option linter.defProp false

/-- (What it marks is not looked into by simp.) -/
class Tg {α : Sort u} (a : α) : Type where
instance tg {α : Sort u} (a : α) : Tg a := {}
/-! Frames in which simp works at one place alone. -/
def vif (t : Bool) (A B : Prop) [Tg A] [Tg B] : Prop := if t = true then A else B
def vget {α : Type} (o : Option α) (K : α → Prop) [Tg K] : Prop := match o with | some y => K y | none => False
def vand (A K : Prop) [Tg K] : Prop := A ∧ K
def vlet {α : Type} (x : α) (K : α → Prop) [Tg K] : Prop := K x
def vex (K : TV → Prop) [Tg K] : Prop := ∃ x, K x
def VC (P : Program) (f : FuncId) (xs : List TV) (H : List Ob) (K : TV → List Ob → Prop) [Tg K] : Prop := VCalls P f xs H K
def VY (P : Program) (id ver : Nat) (xs : List TV) (H : List Ob) (K : TV → List Ob → Prop) [Tg K] : Prop := VYield P id ver xs H K
theorem VC_is {P : Program} {f : FuncId} {xs : List TV} {H : List Ob} {K : TV → List Ob → Prop} (h : VCalls P f xs H K) : VC P f xs H K := h
section
variable {A A' B K : Prop} {α : Type}
@[congr] theorem vif_congr {t t' : Bool} (h : t = t') : vif t A B = vif t' A B := by rw [h]
@[congr] theorem vget_congr {o o' : Option α} {K : α → Prop} (h : o = o') : vget o K = vget o' K := by rw [h]
@[congr] theorem vand_congr (h : A = A') : vand A K = vand A' K := by rw [h]
@[congr] theorem vlet_congr {x x' : α} {K : α → Prop} (h : x = x') : vlet x K = vlet x' K := by rw [h]
@[congr] theorem vwp_congr {P : Program} {c : VCode} {Q : VEx → Env → List Ob → Prop} {e e' : Env} {H H' : List Ob} (he : e = e') (hH : H = H') : vwp P c Q e H = vwp P c Q e' H' := by rw [he, hH]
@[congr] theorem VC_congr {P : Program} {f : FuncId} {xs xs' : List TV} {H H' : List Ob} {K : TV → List Ob → Prop} (he : xs = xs') (hH : H = H') : VC P f xs H K = VC P f xs' H' K := by rw [he, hH]
@[congr] theorem VY_congr {P : Program} {id ver : Nat} {xs xs' : List TV} {H H' : List Ob} {K : TV → List Ob → Prop} (he : xs = xs') (hH : H = H') : VY P id ver xs H K = VY P id ver xs' H' K := by rw [he, hH]
theorem vif_true : vif true A B = A := by simp [vif]
theorem vif_false : vif false A B = B := by simp [vif]
theorem vif_dt {p : Prop} [Decidable p] (h : p) : vif (decide p) A B = A := by simp [vif, h]
theorem vif_df {p : Prop} [Decidable p] (h : ¬ p) : vif (decide p) A B = B := by simp [vif, h]
theorem vif_not {t : Bool} : vif (!t) A B = vif t B A := by cases t <;> simp [vif]
theorem vif_intro {t : Bool} (h1 : t = true → A) (h2 : t = false → B) : vif t A B := by cases t <;> simp [vif, h1, h2]
theorem vif_cases {p : Prop} [Decidable p] (h1 : p → A) (h2 : ¬ p → B) : vif (decide p) A B := by by_cases h : p <;> simp [vif, h, h1, h2]
theorem vif_and {s t : Bool} : vif (s && t) A B = vif s (vif t A B) B := by cases s <;> simp [vif]
theorem vif_or {s t : Bool} : vif (s || t) A B = vif s A (vif t A B) := by cases s <;> simp [vif]
theorem vget_some {y : α} {K : α → Prop} : vget (some y) K = K y := rfl
theorem vget_map {β : Type} {f : α → β} {o : Option α} {K : β → Prop} : vget (o.map f) K = vget o fun y => K (f y) := by cases o <;> rfl
theorem vget_at {cs : List α} {i : Nat} {K : α → Prop} (h : i < cs.length) : vget cs[i]? K = K cs[i] := by rw [List.getElem?_eq_getElem h]; rfl
theorem vget_intro {o : Option α} {K : α → Prop} {y : α} (h : o = some y) (k : K y) : vget o K := by rw [h]; exact k
theorem vand_true (h : A) : vand A K = K := by simp [vand, h]
theorem vand_T : vand True K = K := by simp [vand]
theorem vand_intro (h : A) (k : K) : vand A K := ⟨h, k⟩
theorem vand_and : vand (A ∧ B) K = vand A (vand B K) := by simp [vand, and_assoc]
theorem vlet_is {x : α} {K : α → Prop} : vlet x K = K x := rfl
end

/-! Objects. -/
def obIn : Option Ob → Nat → Option TV
  | some (.obj v x), ver => if v = ver then some x else none
  | _, _ => none
theorem obIn_obj {v : Nat} {x : TV} : obIn (some (.obj v x)) v = some x := by simp [obIn]
section
variable {H l : List Ob} {o : Ob} {n k : Nat}
theorem ob_app (h : H.length = n) : (H ++ l)[n]? = l[0]? := by rw [List.getElem?_append_right (by omega), h, Nat.sub_self]
theorem ob_app1 (h : H.length = n) : (H ++ l)[n + k]? = l[k]? := by rw [List.getElem?_append_right (by omega)]; congr 1; omega
theorem ob_low (h : n < H.length) : (H ++ l)[n]? = H[n]? := List.getElem?_append_left h
theorem ob_set (h : n < H.length) : (H.set n o)[n]? = some o := by simp [h]
theorem ob_set_ne {m : Nat} (h : m ≠ n) : (H.set m o)[n]? = H[n]? := by rw [List.getElem?_set_ne h]
theorem obs_app (h : H.length = n) : (H ++ l).set n o = H ++ l.set 0 o := by rw [List.set_append_right _ _ (by omega), h, Nat.sub_self]
theorem obs_app1 (h : H.length = n) : (H ++ l).set (n + k) o = H ++ l.set k o := by rw [List.set_append_right _ _ (by omega)]; congr 2; omega
theorem obs_low (h : n < H.length) : (H ++ l).set n o = H.set n o ++ l := List.set_append_left _ _ h
end

/-! The operations, by the values of their arguments. -/
section
variable {P : Program} {e : Env} {H : List Ob}
def Ppick (c a b : TV) (K : TV → Prop) [Tg K] : Prop := match c with | .val (.bool t) => K (if t then a else b) | _ => False
def Pbin (t : TypeId) (op : BinOp) (x y : TV) (K : TV → Prop) [Tg K] : Prop := match x, y with
    | .val u, .val v => calm u v = true ∧ (match binV t op u v with | some r => K (.val r) | none => False)
    | _, _ => False
def Pun (op : UnOp) (x : TV) (K : TV → Prop) [Tg K] : Prop := match x with
    | .val u => (match unV op u with | some r => K (.val r) | none => False)
    | _ => False
def Pconv (k : IntKind) (x : TV) (K : TV → Prop) [Tg K] : Prop := match x with
    | .val (.int _ n) => K (.val (.int k (k.wrap n)))
    | _ => False
def Ps2s (x : TV) (K : TV → Prop) [Tg K] : Prop := match x with
    | .val (.string s) => K (.val (.string s))
    | _ => False
def Pb2s (x : Option (List TV)) (K : TV → Prop) [Tg K] : Prop := match x with
    | some cs => (∀ y ∈ cs, isBy y) ∧ K (.val (.string (str (cs.map unby))))
    | none => False
def Pload (H : List Ob) (ag : Bool) (sz : Nat) (x : TV) (K : TV → Prop) [Tg K] : Prop := match x with
    | .fp y => ldOk ag sz y ∧ K y
    | .op id ver p => (match H[id]? with
      | some (.obj v x) => v = ver ∧ (match getP p x with | some y => ldOk ag sz y ∧ K y | none => False)
      | _ => False)
    | _ => False
def PfieldA (i off : Nat) (x : TV) (K : TV → Prop) [Tg K] : Prop := match x with
    | .op id ver p => K (.op id ver (p ++ [(i, off)]))
    | .fp (.agg cs) => widths (cs.take i) = off ∧ (match cs[i]? with | some y => K (.fp y) | none => False)
    | _ => False
def Pfield (ag : Bool) (sz i off : Nat) (x : TV) (K : TV → Prop) [Tg K] : Prop := match x with
    | .agg cs => widths (cs.take i) = off ∧ (match cs[i]? with | some y => ldOk ag sz y ∧ K y | none => False)
    | _ => False
def PidxA (k : Nat) (x i : TV) (K : TV → Prop) [Tg K] : Prop := match x, i with
    | .sl k' cs, .val (.int _ j) => k' = k ∧ 0 ≤ j ∧ (match cs[j.toNat]? with | some y => K (.fp y) | none => False)
    | .os k' id ver p off n cp, .val (.int _ j) => k' = k ∧ 0 ≤ j ∧ j < n ∧ K (.op id ver (p ++ [(off + j.toNat, (off + j.toNat) * k)]))
    | _, _ => False
def PidxAA (n k : Nat) (x i : TV) (K : TV → Prop) [Tg K] : Prop := match x, i with
    | .fp (.arr n' k' cs), .val (.int _ j) => k' = k ∧ n' = n ∧ 0 ≤ j ∧ (match cs[j.toNat]? with | some y => K (.fp y) | none => False)
    | .op id ver p, .val (.int _ j) => 0 ≤ j ∧ j < n ∧ K (.op id ver (p ++ [(j.toNat, j.toNat * k)]))
    | _, _ => False
def Pidx (ag : Bool) (n k : Nat) (x i : TV) (K : TV → Prop) [Tg K] : Prop := match x, i with
    | .arr n' k' cs, .val (.int _ j) => k' = k ∧ n' = n ∧ 0 ≤ j ∧ (match cs[j.toNat]? with | some y => ldOk ag k y ∧ K y | none => False)
    | _, _ => False
def PidxS (x i : TV) (K : TV → Prop) [Tg K] : Prop := match x, i with
    | .val (.string s), .val (.int _ j) => 0 ≤ j ∧ (match (bl s)[j.toNat]? with | some b => K (by8 b) | none => False)
    | _, _ => False
def Pext (i : Nat) (x : TV) (K : TV → Prop) [Tg K] : Prop := match x with
    | .tup xs => (match xs[i]? with | some y => K y | none => False)
    | _ => False
def PlenS (x : TV) (K : TV → Prop) [Tg K] : Prop := match x with
    | .val (.string s) => K (.val (.int .i64 (bl s).length))
    | _ => False
def PlenV (x : TV) (K : TV → Prop) [Tg K] : Prop := match x with
    | .val (.slice _ n _) => K (.val (.int .i64 n))
    | .sl _ cs => K (.val (.int .i64 cs.length))
    | .os _ _ _ _ _ n _ => K (.val (.int .i64 n))
    | _ => False
def bndV (lo hi : Option TV) (len lim : Nat) (K : Nat → Nat → Prop) [Tg K] : Prop :=
  match (match lo with | none => some 0 | some x => (match x with | .val (.int _ i) => some i | _ => none)), (match hi with | none => some (len : Int) | some x => (match x with | .val (.int _ i) => some i | _ => none)) with
  | some l, some h => (0 ≤ l ∧ l ≤ h ∧ h ≤ lim) ∧ K l.toNat h.toNat
  | _, _ => False
def evO (e : Env) : Option Opd → Option TV
  | none => none
  | some x => some (x.ev e)
theorem evO_none : evO e none = none := by_refl rfl
theorem evO_some {x : Opd} : evO e (some x) = some (x.ev e) := by_refl rfl
theorem bnd_is {lo hi : Option Opd} {len lim : Nat} {K : Nat → Nat → Prop} : bnd e lo hi len lim K = bndV (evO e lo) (evO e hi) len lim K := by
  cases lo <;> cases hi <;> rfl
def PslS (x : TV) (lo hi : Option TV) (K : TV → Prop) [Tg K] : Prop := match x with
    | .val (.string s) => bndV lo hi (bl s).length (bl s).length fun l h => K (.val (.string (str (((bl s).drop l).take (h - l)))))
    | _ => False
def PslV (k : Nat) (x : TV) (lo hi : Option TV) (K : TV → Prop) [Tg K] : Prop := match x with
    | .sl k' cs => k' = k ∧ bndV lo hi cs.length cs.length fun l h => K (.sl k ((cs.drop l).take (h - l)))
    | .os k' id ver p off n cp => k' = k ∧ bndV lo hi n cp fun l h => K (.os k id ver p (off + l) (h - l) (cp - l))
    | .val (.slice ad 0 0) => bndV lo hi 0 0 fun l h => K (.val (.slice ad 0 0))
    | _ => False
def PslA (H : List Ob) (n k : Nat) (x : TV) (lo hi : Option TV) (K : TV → Prop) [Tg K] : Prop := match x with
    | .fp (.arr n' k' cs) => k' = k ∧ n' = n ∧ n ≤ 9223372036854775807 ∧ bndV lo hi n n fun l h => K (.sl k ((cs.drop l).take (h - l)))
    | .op id ver p => (match H[id]? with
      | some (.obj v x) => v = ver ∧ n ≤ 9223372036854775807 ∧ (match getP p x with | some (.arr n' k' cs) => k' = k ∧ n' = n ∧ bndV lo hi n n fun l h => K (.os k id ver p l (h - l) (n - l)) | _ => False)
      | _ => False)
    | _ => False
def Piface (t : TypeId) (x : TV) (K : TV → Prop) [Tg K] : Prop := lays x = true ∧ K (.ifc t x)
def Pmkf (f : Fn) (first caps : List TV) (K : TV → Prop) [Tg K] : Prop := (∀ x ∈ first ++ caps, isTup x = false) ∧ K (.fn f first caps)
def Pnilc (x : TV) (K : TV → Prop) [Tg K] : Prop := match x with
    | .op id ver p => K (.op id ver p)
    | .fp y => K (.fp y)
    | .fn (.func f) a b => K (.fn (.func f) a b)
    | .ifc t y => K (.ifc t y)
    | .val (.func (.func f) a b) => K (.val (.func (.func f) a b))
    | _ => False
def Pmin (x y : TV) (K : TV → Prop) [Tg K] : Prop := match x, y with
    | .val (.int k a), .val (.int _ b) => K (.val (.int k (if b < a then b else a)))
    | _, _ => False
def Pmax (x y : TV) (K : TV → Prop) [Tg K] : Prop := match x, y with
    | .val (.int k a), .val (.int _ b) => K (.val (.int k (if b > a then b else a)))
    | _, _ => False
def Pgen (g : GOp) (H : List Ob) (xs : List TV) (K : TV → Prop) [Tg K] : Prop := match gev g H xs with
    | some y => K y
    | none => False
def PeqB (neg : Bool) (x y : TV) (K : TV → Prop) [Tg K] : Prop := match x, y with
    | .val (.bool a), .val (.bool b) => K (.val (.bool (xor neg (a == b))))
    | _, _ => False
def PeqN (neg : Bool) (x y : Option Bool) (K : TV → Prop) [Tg K] : Prop := match x, y with
    | some true, some b => K (.val (.bool (xor neg b)))
    | some false, some true => K (.val (.bool (xor neg false)))
    | _, _ => False
def Sstore (H : List Ob) (sz : Nat) (x v : TV) (K : TV → List Ob → Prop) [Tg K] : Prop := (lays v = true ∧ width v = sz) ∧ (match x with
    | .op id ver p => (match H[id]? with
      | some (.obj vr y) => vr = ver ∧ (match setP p y v with | some y' => K .any (H.set id (.obj ver y')) | none => False)
      | _ => False)
    | _ => False)
def Smks (H : List Ob) (k bytes : Nat) (z l c : TV) (K : TV → List Ob → Prop) [Tg K] : Prop := match l, c with
    | .val (.int _ l), .val (.int _ c) => (0 ≤ l ∧ l ≤ c ∧ (bytes : Int) * c ≤ 281474976710656 ∧ c ≤ 9223372036854775807) ∧ K (.os k H.length 0 [] 0 l.toNat c.toNat) (H ++ [.obj 0 (.arr c.toNat k (List.replicate c.toNat z))])
    | _, _ => False
def Sapp (k bytes : Nat) (et : TypeId) (x : TV) (y : Option (List TV)) (H : List Ob) (K : TV → List Ob → Prop) [Tg K] : Prop := match y with
    | some ys => appTo k bytes et x ys H K
    | none => False
def Scopy (k : Nat) (x : TV) (y : Option (List TV)) (H : List Ob) (K : TV → List Ob → Prop) [Tg K] : Prop := match y with
    | some ys => copyTo k x ys H K
    | none => False
def SappS (et : TypeId) (x y : TV) (H : List Ob) (K : TV → List Ob → Prop) [Tg K] : Prop := match y with
    | .val (.string s) => appTo 1 1 et x ((bl s).map by8) H K
    | _ => False
def ScopyS (x y : TV) (H : List Ob) (K : TV → List Ob → Prop) [Tg K] : Prop := match y with
    | .val (.string s) => copyTo 1 x ((bl s).map by8) H K
    | _ => False
def Sbstr (P : Program) (f : FuncId) (x : Option (Nat × Nat × List UInt8)) (H : List Ob) (K : TV → List Ob → Prop) [Tg K] : Prop := BStr P f ∧ (match x with
    | some (j, v, l) => l.length ≤ 9223372036854775807 ∧ K (.val (.string (str l))) (H.set j (.gone v))
    | none => False)
def Ss2b (H : List Ob) (x : TV) (K : TV → List Ob → Prop) [Tg K] : Prop := match x with
    | .val (.string s) => (bl s).length ≤ 9223372036854775807 ∧ K (.os 1 H.length 0 [] 0 (bl s).length (bl s).length) (H ++ [.obj 0 (.arr (bl s).length 1 ((bl s).map by8))])
    | _ => False
def Scallv (P : Program) (x : TV) (args : List TV) (H : List Ob) (K : TV → List Ob → Prop) [Tg K] : Prop := match x with
    | .fn (.func f) first caps => isGo P f = true ∧ VCalls P f (first ++ args ++ caps) H K
    | .val (.func (.func f) xs ys) => (xs.isEmpty && ys.isEmpty) = true ∧ isGo P f = true ∧ VCalls P f args H K
    | .yl id ver => VYield P id ver args H K
    | _ => False
def Gd (q : Option Bool) (b : Bool) (A B : Prop) [Tg A] [Tg B] : Prop := match q with
  | some t => if t = b then A else B
  | none => B
def evs (e : Env) (xs : List Opd) : List TV := xs.map (·.ev e)
theorem evs_nil : evs e [] = [] := by_refl rfl
theorem evs_cons {x : Opd} {xs : List Opd} : evs e (x :: xs) = x.ev e :: evs e xs := by_refl rfl
def noTup (xs : List TV) : Prop := ∀ x ∈ xs, isTup x = false
theorem noTup_nil : noTup [] = True := by simp [noTup]
theorem noTup_cons {x : TV} {xs : List TV} : noTup (x :: xs) = (isTup x = false ∧ noTup xs) := by simp [noTup]
theorem noTup_of {args : List Opd} : (∀ x ∈ args, isTup (x.ev e) = false) = noTup (evs e args) := by simp [noTup, evs]

/-! Frames of these. -/
section
variable {c c' a a' b b' x x' y y' : TV} {K : TV → Prop} {KK : TV → List Ob → Prop} {lo lo' hi hi' : Option TV} {ox ox' : Option (List TV)} {q q' q2 q2' : Option Bool} {xs xs' : List TV} {A B : Prop} {H' : List Ob}
@[congr] theorem Ppick_c (h1 : c = c') (h2 : a = a') (h3 : b = b') : Ppick c a b K = Ppick c' a' b' K := by rw [h1, h2, h3]
@[congr] theorem Pbin_c {t : TypeId} {op : BinOp} (h1 : x = x') (h2 : y = y') : Pbin t op x y K = Pbin t op x' y' K := by rw [h1, h2]
@[congr] theorem Pun_c {op : UnOp} (h1 : x = x') : Pun op x K = Pun op x' K := by rw [h1]
@[congr] theorem Pconv_c {k : IntKind} (h1 : x = x') : Pconv k x K = Pconv k x' K := by rw [h1]
@[congr] theorem Ps2s_c (h1 : x = x') : Ps2s x K = Ps2s x' K := by rw [h1]
@[congr] theorem Pb2s_c (h1 : ox = ox') : Pb2s ox K = Pb2s ox' K := by rw [h1]
@[congr] theorem Pload_c {ag : Bool} {sz : Nat} (h1 : x = x') (h2 : H = H') : Pload H ag sz x K = Pload H' ag sz x' K := by rw [h1, h2]
@[congr] theorem PfieldA_c {i o : Nat} (h1 : x = x') : PfieldA i o x K = PfieldA i o x' K := by rw [h1]
@[congr] theorem Pfield_c {ag : Bool} {sz i o : Nat} (h1 : x = x') : Pfield ag sz i o x K = Pfield ag sz i o x' K := by rw [h1]
@[congr] theorem PidxA_c {k : Nat} (h1 : x = x') (h2 : y = y') : PidxA k x y K = PidxA k x' y' K := by rw [h1, h2]
@[congr] theorem PidxAA_c {n k : Nat} (h1 : x = x') (h2 : y = y') : PidxAA n k x y K = PidxAA n k x' y' K := by rw [h1, h2]
@[congr] theorem Pidx_c {ag : Bool} {n k : Nat} (h1 : x = x') (h2 : y = y') : Pidx ag n k x y K = Pidx ag n k x' y' K := by rw [h1, h2]
@[congr] theorem PidxS_c (h1 : x = x') (h2 : y = y') : PidxS x y K = PidxS x' y' K := by rw [h1, h2]
@[congr] theorem Pext_c {i : Nat} (h1 : x = x') : Pext i x K = Pext i x' K := by rw [h1]
@[congr] theorem PlenS_c (h1 : x = x') : PlenS x K = PlenS x' K := by rw [h1]
@[congr] theorem PlenV_c (h1 : x = x') : PlenV x K = PlenV x' K := by rw [h1]
@[congr] theorem bndV_c {n m : Nat} {K : Nat → Nat → Prop} {n' m' : Nat} (h1 : lo = lo') (h2 : hi = hi') (h3 : n = n') (h4 : m = m') : bndV lo hi n m K = bndV lo' hi' n' m' K := by rw [h1, h2, h3, h4]
@[congr] theorem PslS_c (h1 : x = x') (h2 : lo = lo') (h3 : hi = hi') : PslS x lo hi K = PslS x' lo' hi' K := by rw [h1, h2, h3]
@[congr] theorem PslV_c {k : Nat} (h1 : x = x') (h2 : lo = lo') (h3 : hi = hi') : PslV k x lo hi K = PslV k x' lo' hi' K := by rw [h1, h2, h3]
@[congr] theorem PslA_c {n k : Nat} (h0 : H = H') (h1 : x = x') (h2 : lo = lo') (h3 : hi = hi') : PslA H n k x lo hi K = PslA H' n k x' lo' hi' K := by rw [h0, h1, h2, h3]
@[congr] theorem Piface_c {t : TypeId} (h1 : x = x') : Piface t x K = Piface t x' K := by rw [h1]
@[congr] theorem Pmkf_c {f : Fn} {ys ys' : List TV} (h1 : xs = xs') (h2 : ys = ys') : Pmkf f xs ys K = Pmkf f xs' ys' K := by rw [h1, h2]
@[congr] theorem Pnilc_c (h1 : x = x') : Pnilc x K = Pnilc x' K := by rw [h1]
@[congr] theorem Pmin_c (h1 : x = x') (h2 : y = y') : Pmin x y K = Pmin x' y' K := by rw [h1, h2]
@[congr] theorem Pmax_c (h1 : x = x') (h2 : y = y') : Pmax x y K = Pmax x' y' K := by rw [h1, h2]
@[congr] theorem Pgen_c {g : GOp} {xs xs' : List TV} (h1 : H = H') (h2 : xs = xs') : Pgen g H xs K = Pgen g H' xs' K := by rw [h1, h2]
@[congr] theorem PeqB_c {n : Bool} (h1 : x = x') (h2 : y = y') : PeqB n x y K = PeqB n x' y' K := by rw [h1, h2]
@[congr] theorem PeqN_c {n : Bool} (h1 : q = q') (h2 : q2 = q2') : PeqN n q q2 K = PeqN n q' q2' K := by rw [h1, h2]
@[congr] theorem Sstore_c {sz : Nat} (h0 : H = H') (h1 : x = x') (h2 : y = y') : Sstore H sz x y KK = Sstore H' sz x' y' KK := by rw [h0, h1, h2]
@[congr] theorem Smks_c {k n : Nat} {z : TV} (h0 : H = H') (h1 : x = x') (h2 : y = y') : Smks H k n z x y KK = Smks H' k n z x' y' KK := by rw [h0, h1, h2]
@[congr] theorem Sapp_c {k n : Nat} {et : TypeId} (h0 : H = H') (h1 : x = x') (h2 : ox = ox') : Sapp k n et x ox H KK = Sapp k n et x' ox' H' KK := by rw [h0, h1, h2]
@[congr] theorem Scopy_c {k : Nat} (h0 : H = H') (h1 : x = x') (h2 : ox = ox') : Scopy k x ox H KK = Scopy k x' ox' H' KK := by rw [h0, h1, h2]
@[congr] theorem SappS_c {et : TypeId} (h0 : H = H') (h1 : x = x') (h2 : y = y') : SappS et x y H KK = SappS et x' y' H' KK := by rw [h0, h1, h2]
@[congr] theorem ScopyS_c (h0 : H = H') (h1 : x = x') (h2 : y = y') : ScopyS x y H KK = ScopyS x' y' H' KK := by rw [h0, h1, h2]
@[congr] theorem Sbstr_c {P : Program} {f : FuncId} {r r' : Option (Nat × Nat × List UInt8)} (h0 : H = H') (h1 : r = r') : Sbstr P f r H KK = Sbstr P f r' H' KK := by rw [h0, h1]
@[congr] theorem Ss2b_c (h0 : H = H') (h1 : x = x') : Ss2b H x KK = Ss2b H' x' KK := by rw [h0, h1]
@[congr] theorem Scallv_c (h0 : H = H') (h1 : x = x') (h2 : xs = xs') : Scallv P x xs H KK = Scallv P x' xs' H' KK := by rw [h0, h1, h2]
@[congr] theorem Gd_c {b : Bool} (h1 : q = q') : Gd q b A B = Gd q' b A B := by rw [h1]
end

/-! First the arguments. -/
section
variable {K : TV → Prop} {KK : TV → List Ob → Prop} {x y i a b c : Opd} {lo hi : Option Opd}
theorem r_mov : pop (.mov x) e H K = vlet (x.ev e) K := by_refl rfl
theorem r_pick : pop (.pick c a b) e H K = Ppick (c.ev e) (a.ev e) (b.ev e) K := by_refl rfl
theorem r_bin {t : TypeId} {op : BinOp} : pop (.bin t op x y) e H K = Pbin t op (x.ev e) (y.ev e) K := by_refl rfl
theorem r_un {op : UnOp} : pop (.un op x) e H K = Pun op (x.ev e) K := by_refl rfl
theorem r_conv {k : IntKind} : pop (.conv k x) e H K = Pconv k (x.ev e) K := by_refl rfl
theorem r_s2s : pop (.s2s x) e H K = Ps2s (x.ev e) K := by_refl rfl
theorem r_b2s : pop (.b2s x) e H K = Pb2s (elemsOf H 1 (x.ev e)) K := by_refl rfl
theorem r_load {ag : Bool} {sz : Nat} : pop (.load ag sz x) e H K = Pload H ag sz (x.ev e) K := by_refl rfl
theorem r_fieldA {n o : Nat} : pop (.fieldA n o x) e H K = PfieldA n o (x.ev e) K := by_refl rfl
theorem r_field {ag : Bool} {sz n o : Nat} : pop (.field ag sz n o x) e H K = Pfield ag sz n o (x.ev e) K := by_refl rfl
theorem r_idxA {k : Nat} : pop (.idxA k x i) e H K = PidxA k (x.ev e) (i.ev e) K := by_refl rfl
theorem r_idxAA {n k : Nat} : pop (.idxAA n k x i) e H K = PidxAA n k (x.ev e) (i.ev e) K := by_refl rfl
theorem r_idx {ag : Bool} {n k : Nat} : pop (.idx ag n k x i) e H K = Pidx ag n k (x.ev e) (i.ev e) K := by_refl rfl
theorem r_idxS : pop (.idxS x i) e H K = PidxS (x.ev e) (i.ev e) K := by_refl rfl
theorem r_ext {n : Nat} : pop (.ext n x) e H K = Pext n (x.ev e) K := by_refl rfl
theorem r_lenS : pop (.lenS x) e H K = PlenS (x.ev e) K := by_refl rfl
theorem r_lenV : pop (.lenV x) e H K = PlenV (x.ev e) K := by_refl rfl
theorem r_slS : pop (.slS x lo hi) e H K = PslS (x.ev e) (evO e lo) (evO e hi) K := by
  show (match x.ev e with | .val (.string s) => bnd e lo hi (bl s).length (bl s).length fun l h => K (.val (.string (str (((bl s).drop l).take (h - l))))) | _ => False) = _
  simp only [bnd_is]; rfl
theorem r_slV {k : Nat} : pop (.slV k x lo hi) e H K = PslV k (x.ev e) (evO e lo) (evO e hi) K := by
  rw [p_slV]; simp only [bnd_is]; rfl
theorem r_slA {n k : Nat} : pop (.slA n k x lo hi) e H K = PslA H n k (x.ev e) (evO e lo) (evO e hi) K := by
  rw [p_slA]; simp only [bnd_is]; rfl
theorem r_iface {t : TypeId} : pop (.iface t x) e H K = Piface t (x.ev e) K := by_refl rfl
theorem r_mkf {f : Fn} {xs ys : List Opd} : pop (.mkf f xs ys) e H K = Pmkf f (evs e xs) (evs e ys) K := by
  rw [p_mkf]; unfold Pmkf evs; rw [← List.map_append]
  refine congrArg (· ∧ _) (propext ⟨fun h y hy => ?_, fun h y hy => h _ (List.mem_map.2 ⟨y, hy, rfl⟩)⟩)
  obtain ⟨z, hz, rfl⟩ := List.mem_map.1 hy; exact h z hz
theorem r_nilc : pop (.nilc x) e H K = Pnilc (x.ev e) K := by_refl rfl
theorem r_min : pop (.min x y) e H K = Pmin (x.ev e) (y.ev e) K := by_refl rfl
theorem r_max : pop (.max x y) e H K = Pmax (x.ev e) (y.ev e) K := by_refl rfl
theorem r_gen {g : GOp} {xs : List Opd} : pop (.gen g xs) e H K = Pgen g H (evs e xs) K := by_refl rfl
theorem r_eqB {n : Bool} : pop (.eqB x y n) e H K = PeqB n (x.ev e) (y.ev e) K := by_refl rfl
theorem r_eqN {kd : Nat} {n : Bool} : pop (.eqN kd x y n) e H K = PeqN n (ptrNil kd (x.ev e)) (ptrNil kd (y.ev e)) K := by_refl rfl
theorem r_build {zs : List TV} {szs : List Nat} {ps : List (Nat × Opd)} : pop (.build zs szs ps) e H K = vand (fillsOk e szs ps) (vlet (TV.agg (fills e zs ps)) K) := by_refl rfl
theorem r_buildA {n k : Nat} {zs : List TV} {ps : List (Nat × Opd)} : pop (.buildA n k zs ps) e H K = vand (fillsOk e (List.replicate n k) ps) (vand (fillsPure e ps) (vlet (TV.arr n k (fills e zs ps)) K)) := by_refl rfl
theorem s_alloc {z : TV} : sop P (.alloc z) e H KK = vlet (H.length) fun n => vlet (H ++ [.obj 0 z]) fun H' => KK (.op n 0 []) H' := by_refl rfl
theorem s_allocT {z : TV} {t : TypeId} : sop P (.allocT z t) e H KK = vlet (H.length) fun n => vlet (width z) fun m => vlet (H ++ [.obj 0 z, .fact n 0 t m]) fun H' => KK (.op n 0 []) H' := by_refl rfl
theorem s_boxT {t : TypeId} : sop P (.boxT x t) e H KK = vlet (x.ev e) fun v => vand (lays v = true) (vlet (H.length) fun n => vlet (width v) fun m => vlet (H ++ [.obj 0 v, .fact n 0 t m]) fun H' => KK (.op n 0 []) H') := by_refl rfl
theorem s_bstr {f : FuncId} : sop P (.bstr f x) e H KK = Sbstr P f (rowOf H (x.ev e)) H KK := by_refl rfl
def SrngS (x : TV) (H : List Ob) (K : TV → List Ob → Prop) [Tg K] : Prop := match x with
  | .val (.string s) => K (.op H.length 0 []) (H ++ [.sit (bl s) 0])
  | _ => False
@[congr] theorem SrngS_c {x x' : TV} {H' : List Ob} (h1 : x = x') (h2 : H = H') : SrngS x H KK = SrngS x' H' KK := by rw [h1, h2]
theorem s_rngS : sop P (.rngS x) e H KK = SrngS (x.ev e) H KK := by_refl rfl
theorem SrngS_is {s : ByteArray} : SrngS (.val (.string s)) H KK = vlet H.length fun n => vlet (H ++ [.sit (bl s) 0]) fun H' => KK (.op n 0 []) H' := by_refl rfl
def sitIn : Option Ob → Option (List UInt8 × Nat)
  | some (.sit s pos) => some (s, pos)
  | _ => none
theorem sitIn_is {s : List UInt8} {pos : Nat} : sitIn (some (.sit s pos)) = some (s, pos) := by_refl rfl
def SnxtS (x : TV) (H : List Ob) (K : TV → List Ob → Prop) [Tg K] : Prop := match x with
  | .op id 0 [] => (match H[id]? with
    | some (.sit s pos) => if pos < s.length then K (.tup [.val (.bool true), .val (.int .i64 (pos : Int)), .val (.int .i32 ((Utf8.decode (str s) pos).1 : Int))]) (H.set id (.sit s (pos + (Utf8.decode (str s) pos).2))) else K (.tup [.val (.bool false)]) H
    | _ => False)
  | _ => False
@[congr] theorem SnxtS_c {x x' : TV} {H' : List Ob} (h1 : x = x') (h2 : H = H') : SnxtS x H KK = SnxtS x' H' KK := by rw [h1, h2]
theorem s_nxtS : sop P (.nxtS x) e H KK = SnxtS (x.ev e) H KK := by_refl rfl
theorem SnxtS_is {id : Nat} : SnxtS (.op id 0 []) H KK = vget (sitIn H[id]?) fun p => vif (decide (p.2 < p.1.length))
    (vlet (H.set id (.sit p.1 (p.2 + (Utf8.decode (str p.1) p.2).2))) fun H' => KK (.tup [.val (.bool true), .val (.int .i64 (p.2 : Int)), .val (.int .i32 ((Utf8.decode (str p.1) p.2).1 : Int))]) H') (KK (.tup [.val (.bool false)]) H) := by
  unfold SnxtS
  cases h : H[id]? with
  | none => simp [sitIn, vget, h]
  | some o =>
    cases o with
    | sit s pos => simp only [h, sitIn, vget, vlet]; by_cases hp : pos < s.length <;> simp [vif, hp]
    | _ => simp [sitIn, vget, h]
theorem s_box : sop P (.box x) e H KK = vlet (x.ev e) fun v => vand (lays v = true) (vlet (H.length) fun n => vlet (H ++ [.obj 0 v]) fun H' => KK (.op n 0 []) H') := by_refl rfl
theorem s_bslice {k n : Nat} {z : TV} {ps : List (Nat × Opd)} : sop P (.bslice k n z ps) e H KK = vand (fillsOk e (List.replicate n k) ps) (vand (fillsPure e ps ∧ n ≤ 1000) (vlet H.length fun m => vlet (H ++ [.obj 0 (.arr n k (fills e (List.replicate n z) ps))]) fun H' => KK (.os k m 0 [] 0 n n) H')) := by
  rw [q_bslice]; simp only [vand, vlet, and_assoc]
/-- Maps. -/
def mapIn (kk : MK) : Option Ob → Option (List (List UInt8 × TV))
  | some (.mpo kk' es) => if kk' = kk then some es else none
  | _ => none
theorem mapIn_is {kk : MK} {es : List (List UInt8 × TV)} : mapIn kk (some (.mpo kk es)) = some es := by simp [mapIn]
theorem kB_str {l : List UInt8} : kBytes .str (.val (.string (str l))) = some l := by simp [kBytes, bl, str]
theorem kB_arr {n : Nat} {l : List UInt8} : kBytes (.arr n) (.arr n 1 (l.map by8)) = some l := by
  unfold kBytes; simp only [isByB_all, unby_all, and_self, if_true]
theorem lookT_f {z : TV} {r : Option TV} : lookT z false r = r.getD z := by simp [lookT]
theorem lookT_t {z : TV} {r : Option TV} : lookT z true r = .tup [r.getD z, .val (.bool r.isSome)] := by simp [lookT]
def Smkm (x : TV) (A : Prop) [Tg A] : Prop := match x with
  | .val (.int _ _) => A
  | _ => False
@[congr] theorem Smkm_c {x x' : TV} {A : Prop} (h : x = x') : Smkm x A = Smkm x' A := by rw [h]
theorem Smkm_is {q : IntKind} {n : Int} {A : Prop} : Smkm (.val (.int q n)) A = A := by simp [Smkm]
theorem s_mkm0 {kk : MK} : sop P (.mkm kk none) e H KK = vlet H.length fun n => vlet (H ++ [.mpo kk []]) fun H' => KK (.mp n 0) H' := by simp [sop, vlet]
theorem s_mkm1 {kk : MK} : sop P (.mkm kk (some x)) e H KK = Smkm (x.ev e) (vlet H.length fun n => vlet (H ++ [.mpo kk []]) fun H' => KK (.mp n 0) H') := by
  simp only [sop, vlet, Smkm]
  cases x.ev e with
  | val v => cases v <;> simp
  | _ => simp
def Smupd (kk : MK) (m k v : TV) (H : List Ob) (K : TV → List Ob → Prop) [Tg K] : Prop := match m, kBytes kk k with
  | .mp id 0, some kb => (match H[id]? with
    | some (.mpo kk' es) => (kk' = kk ∧ lays v = true) ∧ K .any (H.set id (.mpo kk (mput kb v es)))
    | _ => False)
  | _, _ => False
@[congr] theorem Smupd_c {kk : MK} {H' : List Ob} {m m' k k' v v' : TV} (h1 : m = m') (h2 : k = k') (h3 : v = v') (h4 : H = H') : Smupd kk m k v H KK = Smupd kk m' k' v' H' KK := by rw [h1, h2, h3, h4]
theorem s_mupd {kk : MK} {m k : Opd} : sop P (.mupd kk m k x) e H KK = Smupd kk (m.ev e) (k.ev e) (x.ev e) H KK := by_refl rfl
def Sment (kk : MK) (z m k : TV) (H : List Ob) (K : TV → List Ob → Prop) [Tg K] : Prop := match m, kBytes kk k with
  | .mp id 0, some kb => (match H[id]? with
    | some (.mpo kk' es) => kk' = kk ∧ K (.tup [(mget kb es).getD z, .val (.int .i64 (mpos kb es))]) (H.set id (.mpo kk (mput kb ((mget kb es).getD z) es)))
    | _ => False)
  | _, _ => False
@[congr] theorem Sment_c {kk : MK} {H' : List Ob} {z m m' k k' : TV} (h1 : m = m') (h2 : k = k') (h4 : H = H') : Sment kk z m k H KK = Sment kk z m' k' H' KK := by rw [h1, h2, h4]
theorem s_ment {kk : MK} {z : TV} {m k : Opd} : sop P (.ment kk z m k) e H KK = Sment kk z (m.ev e) (k.ev e) H KK := by_refl rfl
def Smest (m st v : TV) (H : List Ob) (K : TV → List Ob → Prop) [Tg K] : Prop := match m, st with
  | .mp id 0, .val (.int _ j) => (match H[id]? with
    | some (.mpo kk es) => (0 ≤ j ∧ lays v = true) ∧ (match es[j.toNat]? with
      | some (k, _) => K .any (H.set id (.mpo kk (es.set j.toNat (k, v))))
      | none => False)
    | _ => False)
  | _, _ => False
@[congr] theorem Smest_c {H' : List Ob} {m m' st st' v v' : TV} (h1 : m = m') (h2 : st = st') (h3 : v = v') (h4 : H = H') : Smest m st v H KK = Smest m' st' v' H' KK := by rw [h1, h2, h3, h4]
theorem s_mest {m st : Opd} : sop P (.mest m st x) e H KK = Smest (m.ev e) (st.ev e) (x.ev e) H KK := by_refl rfl
theorem s_store {sz : Nat} : sop P (.store sz x y) e H KK = Sstore H sz (x.ev e) (y.ev e) KK := by_refl rfl
theorem s_mks {k n : Nat} {z : TV} : sop P (.mks k n z x y) e H KK = Smks H k n z (x.ev e) (y.ev e) KK := by_refl rfl
theorem s_app {k n : Nat} {et : TypeId} : sop P (.app k n et x y) e H KK = Sapp k n et (x.ev e) (elemsOf H k (y.ev e)) H KK := by_refl rfl
theorem s_appS {et : TypeId} : sop P (.appS et x y) e H KK = SappS et (x.ev e) (y.ev e) H KK := by_refl rfl
theorem s_copy {k : Nat} : sop P (.copy k x y) e H KK = Scopy k (x.ev e) (elemsOf H k (y.ev e)) H KK := by_refl rfl
theorem s_copyS : sop P (.copyS x y) e H KK = ScopyS (x.ev e) (y.ev e) H KK := by_refl rfl
theorem s_s2b : sop P (.s2b x) e H KK = Ss2b H (x.ev e) KK := by_refl rfl
theorem s_call {f : FuncId} {args : List Opd} : sop P (.call f args) e H KK = vlet (evs e args) fun xs => vand (noTup xs) (VC P f xs H KK) := by
  rw [q_call, noTup_of]; rfl
theorem s_callv {args : List Opd} : sop P (.callv x args) e H KK = vlet (evs e args) fun xs => vand (noTup xs) (Scallv P (x.ev e) xs H KK) := by
  rw [q_callv, noTup_of]; rfl
end

/-! Then what they are. -/
section
variable {K : TV → Prop} {KK : TV → List Ob → Prop} {x y : TV} {cs ys : List TV} {n n' k k' : Nat} {id ver off cp : Nat} {p : List (Nat × Nat)} {j : Int} {q : IntKind} {lo hi : Option TV}
theorem Ppick_is {t : Bool} : Ppick (.val (.bool t)) x y K = vif t (K x) (K y) := by cases t <;> simp [Ppick, vif]
theorem Pbin_is {t : TypeId} {op : BinOp} {u v : Value} : Pbin t op (.val u) (.val v) K = vand (calm u v = true) (vget (binV t op u v) fun r => vlet (TV.val r) K) := by
  show (_ ∧ _) = _; cases binV t op u v <;> rfl
theorem Pun_is {op : UnOp} {u : Value} : Pun op (.val u) K = vget (unV op u) fun r => vlet (TV.val r) K := by
  unfold Pun; simp only; cases unV op u <;> rfl
theorem Pconv_is {k : IntKind} : Pconv k (.val (.int q j)) K = vlet (TV.val (.int k (k.wrap j))) K := by_refl rfl
theorem Ps2s_is {s : ByteArray} : Ps2s (.val (.string s)) K = K (.val (.string s)) := by_refl rfl
theorem Pb2s_is : Pb2s (some cs) K = vand (∀ y ∈ cs, isBy y) (vlet (TV.val (.string (str (cs.map unby)))) K) := by_refl rfl
theorem Pload_fp {ag : Bool} {sz : Nat} : Pload H ag sz (.fp y) K = vand (ldOk ag sz y) (K y) := by_refl rfl
theorem Pload_op {ag : Bool} {sz : Nat} : Pload H ag sz (.op id ver p) K = vget (obIn H[id]? ver) fun x => vget (getP p x) fun y => vand (ldOk ag sz y) (K y) := by
  unfold Pload
  simp only
  cases h : H[id]? with
  | none => simp [obIn, vget]
  | some o =>
    cases o with
    | gone v => simp [obIn, vget]
    | ice v m y => simp [obIn, vget]
    | fact i v t m => simp [obIn, vget]
    | bld v t l => simp [obIn, vget]
    | lp st pe fn N en ps ca cb => simp [obIn, vget]
    | mpo kk es => simp [obIn, vget]
    | sit s pos => simp [obIn, vget]
    | obj v x =>
      by_cases hv : v = ver
      · subst hv; simp only [obIn, vget, vand, if_true, true_and]; cases getP p x <;> rfl
      · simp [obIn, vget, hv]
theorem PfieldA_op {i o : Nat} : PfieldA i o (.op id ver p) K = vlet (p ++ [(i, o)]) fun p => K (.op id ver p) := by_refl rfl
theorem PfieldA_fp {i o : Nat} : PfieldA i o (.fp (.agg cs)) K = vand (widths (cs.take i) = o) (vget cs[i]? fun y => K (.fp y)) := by
  unfold PfieldA; simp only; cases cs[i]? <;> rfl
theorem Pfield_is {ag : Bool} {sz i o : Nat} : Pfield ag sz i o (.agg cs) K = vand (widths (cs.take i) = o) (vget cs[i]? fun y => vand (ldOk ag sz y) (K y)) := by
  unfold Pfield; simp only; cases cs[i]? <;> rfl
theorem PidxA_sl : PidxA k (.sl k cs) (.val (.int q j)) K = vand (0 ≤ j) (vget cs[j.toNat]? fun y => K (.fp y)) := by
  unfold PidxA; simp only [true_and]; cases cs[j.toNat]? <;> rfl
theorem PidxA_os : PidxA k (.os k id ver p off n cp) (.val (.int q j)) K = vand (0 ≤ j ∧ j < n) (vlet (off + j.toNat) fun m => vlet (p ++ [(m, m * k)]) fun p => K (.op id ver p)) := by
  show (k = k ∧ _) = _; simp [vand, vlet, and_assoc]
theorem PidxAA_fp : PidxAA n k (.fp (.arr n k cs)) (.val (.int q j)) K = vand (0 ≤ j) (vget cs[j.toNat]? fun y => K (.fp y)) := by
  unfold PidxAA; simp only [true_and]; cases cs[j.toNat]? <;> rfl
theorem PidxAA_op : PidxAA n k (.op id ver p) (.val (.int q j)) K = vand (0 ≤ j ∧ j < n) (vlet j.toNat fun m => vlet (p ++ [(m, m * k)]) fun p => K (.op id ver p)) := by
  show (_ ∧ _) = _; simp [vand, vlet, and_assoc]
theorem Pidx_is {ag : Bool} : Pidx ag n k (.arr n k cs) (.val (.int q j)) K = vand (0 ≤ j) (vget cs[j.toNat]? fun y => vand (ldOk ag k y) (K y)) := by
  unfold Pidx; simp only [true_and]; cases cs[j.toNat]? <;> rfl
theorem PidxS_is {s : ByteArray} : PidxS (.val (.string s)) (.val (.int q j)) K = vand (0 ≤ j) (vget (bl s)[j.toNat]? fun b => K (by8 b)) := by
  unfold PidxS; simp only; cases (bl s)[j.toNat]? <;> rfl
theorem Pext_is {i : Nat} : Pext i (.tup cs) K = vget cs[i]? K := by
  unfold Pext; simp only; cases cs[i]? <;> rfl
theorem PlenS_is {s : ByteArray} : PlenS (.val (.string s)) K = vlet (TV.val (.int .i64 (bl s).length)) K := by_refl rfl
theorem PlenV_sl : PlenV (.sl k cs) K = vlet (TV.val (.int .i64 cs.length)) K := by_refl rfl
theorem PlenV_os : PlenV (.os k id ver p off n cp) K = K (.val (.int .i64 n)) := by_refl rfl
theorem PlenV_val {ad : Option Addr} {c : Nat} : PlenV (.val (.slice ad n c)) K = K (.val (.int .i64 n)) := by_refl rfl
section
variable {len lim : Nat} {KN : Nat → Nat → Prop} {l h : Int} {q2 : IntKind}
theorem bndV_nn : bndV none none len lim KN = vand (len ≤ lim) (KN 0 len) := by
  show ((0 ≤ (0:Int) ∧ (0:Int) ≤ (len : Int) ∧ (len : Int) ≤ lim) ∧ KN (Int.toNat 0) (Int.toNat len)) = _
  simp [vand]
theorem bndV_sn : bndV (some (.val (.int q l))) none len lim KN = vand (0 ≤ l ∧ l ≤ len ∧ (len : Int) ≤ lim) (vlet l.toNat fun l => KN l len) := by
  show ((0 ≤ l ∧ l ≤ (len : Int) ∧ (len : Int) ≤ lim) ∧ KN l.toNat (Int.toNat len)) = _
  simp [vand, vlet]
theorem bndV_ns : bndV none (some (.val (.int q h))) len lim KN = vand (0 ≤ h ∧ h ≤ lim) (vlet h.toNat fun h => KN 0 h) := by
  show ((0 ≤ (0:Int) ∧ 0 ≤ h ∧ h ≤ lim) ∧ KN (Int.toNat 0) h.toNat) = _
  simp [vand, vlet]
theorem bndV_ss : bndV (some (.val (.int q l))) (some (.val (.int q2 h))) len lim KN = vand (0 ≤ l ∧ l ≤ h ∧ h ≤ lim) (vlet l.toNat fun l => vlet h.toNat fun h => KN l h) := by_refl rfl
end
theorem PslS_is {s : ByteArray} : PslS (.val (.string s)) lo hi K = bndV lo hi (bl s).length (bl s).length fun l h => vlet (((bl s).drop l).take (h - l)) fun r => K (.val (.string (str r))) := by_refl rfl
theorem PslV_sl : PslV k (.sl k cs) lo hi K = bndV lo hi cs.length cs.length fun l h => vlet ((cs.drop l).take (h - l)) fun r => K (.sl k r) := by
  exact propext ⟨fun h => h.2, fun h => ⟨rfl, h⟩⟩
theorem PslV_os : PslV k (.os k id ver p off n cp) lo hi K = bndV lo hi n cp fun l h => vlet (off + l) fun o => vlet (h - l) fun m => vlet (cp - l) fun c => K (.os k id ver p o m c) := by
  exact propext ⟨fun h => h.2, fun h => ⟨rfl, h⟩⟩
theorem PslV_val {ad : Option Addr} : PslV k (.val (.slice ad 0 0)) lo hi K = bndV lo hi 0 0 fun l h => K (.val (.slice ad 0 0)) := by_refl rfl
theorem PslA_fp : PslA H n k (.fp (.arr n k cs)) lo hi K = vand (n ≤ 9223372036854775807) (bndV lo hi n n fun l h => vlet ((cs.drop l).take (h - l)) fun r => K (.sl k r)) := by
  exact propext ⟨fun h => ⟨h.2.2.1, h.2.2.2⟩, fun h => ⟨rfl, rfl, h.1, h.2⟩⟩
/-- An array at the end of a way. -/
def arrIn : Option TV → Nat → Nat → Option (List TV)
  | some (.arr n' k' cs), n, k => if n' = n ∧ k' = k then some cs else none
  | _, _, _ => none
theorem arrIn_is : arrIn (some (.arr n k cs)) n k = some cs := by simp [arrIn]
theorem PslA_op : PslA H n k (.op id ver p) lo hi K = vget (obIn H[id]? ver) fun x => vand (n ≤ 9223372036854775807) (vget (arrIn (getP p x) n k) fun _ => bndV lo hi n n fun l h => vlet (h - l) fun m => vlet (n - l) fun c => K (.os k id ver p l m c)) := by
  unfold PslA
  simp only
  cases h : H[id]? with
  | none => simp [obIn, vget]
  | some o =>
    cases o with
    | gone v => simp [obIn, vget]
    | ice v m y => simp [obIn, vget]
    | fact i v t m => simp [obIn, vget]
    | bld v t l => simp [obIn, vget]
    | lp st pe fn N en ps ca cb => simp [obIn, vget]
    | mpo kk es => simp [obIn, vget]
    | sit s pos => simp [obIn, vget]
    | obj v x =>
      by_cases hv : v = ver
      · simp only [obIn, vget, hv, vand, vlet, if_true, true_and]
        congr 1
        cases hg : getP p x with
        | none => simp [arrIn]
        | some y =>
          cases y with
          | arr n2 k2 ds =>
            by_cases h1 : n2 = n
            · by_cases h2 : k2 = k
              · simp [arrIn, h1, h2]; exact Iff.rfl
              · simp [arrIn, h1, h2]
            · simp [arrIn, h1]
          | _ => simp [arrIn]
      · simp [obIn, vget, hv]
theorem Piface_is {t : TypeId} : Piface t x K = vand (lays x = true) (K (.ifc t x)) := by_refl rfl
theorem Pmkf_is {f : Fn} : Pmkf f cs ys K = vand (noTup (cs ++ ys)) (K (.fn f cs ys)) := by_refl rfl
theorem Pnilc_op : Pnilc (.op id ver p) K = K (.op id ver p) := by_refl rfl
theorem Pnilc_fp : Pnilc (.fp y) K = K (.fp y) := by_refl rfl
theorem Pnilc_fn {f : FuncId} {a b : List TV} : Pnilc (.fn (.func f) a b) K = K (.fn (.func f) a b) := by_refl rfl
theorem Pnilc_ifc {t : TypeId} : Pnilc (.ifc t y) K = K (.ifc t y) := by_refl rfl
theorem Pnilc_func {f : FuncId} {a b : Array Value} : Pnilc (.val (.func (.func f) a b)) K = K (.val (.func (.func f) a b)) := by_refl rfl
section
variable {a b : Int} {q2 : IntKind}
theorem Pmin_is : Pmin (.val (.int q a)) (.val (.int q2 b)) K = vif (decide (b < a)) (K (.val (.int q b))) (K (.val (.int q a))) := by
  show K _ = _
  by_cases h : b < a <;> simp [vif, h]
theorem Pmax_is : Pmax (.val (.int q a)) (.val (.int q2 b)) K = vif (decide (a < b)) (K (.val (.int q b))) (K (.val (.int q a))) := by
  show K _ = _
  by_cases h : a < b <;> simp [vif, h]
theorem Pgen_sl3 {q1 q2 q3 : IntKind} {l h m : Int} : Pgen (.sl3 k) H [.sl k cs, .val (.int q1 l), .val (.int q2 h), .val (.int q3 m)] K = vand (0 ≤ l ∧ l ≤ h ∧ h ≤ m ∧ m ≤ cs.length) (vlet ((cs.drop l.toNat).take (h.toNat - l.toNat)) fun r => K (.sl k r)) := by
  unfold Pgen gev vand vlet
  simp only [true_and]
  by_cases hc : 0 ≤ l ∧ l ≤ h ∧ h ≤ m ∧ m ≤ cs.length
  · rw [if_pos hc]; simp [hc]
  · rw [if_neg hc]; simp only [hc, false_and]
theorem Pgen_eqA {n : Nat} {b : Bool} {xs ys : List UInt8} : Pgen (.eqA n b) H [.arr n 1 (xs.map by8), .arr n 1 (ys.map by8)] K = vlet (TV.val (.bool (xor b (xs == ys)))) K := by
  unfold Pgen gev vlet
  simp only [isByB_all, unby_all, and_self, if_true]
theorem Pgen_r2s {q : IntKind} {n : Int} : Pgen .r2s H [.val (.int q n)] K = vlet (TV.val (.string (Utf8.encode n))) K := by_refl rfl
theorem PeqB_f {s t : Bool} : PeqB false (.val (.bool s)) (.val (.bool t)) K = vlet (TV.val (.bool (s == t))) K := by
  show K _ = _; simp [vlet]
theorem PeqB_t {s t : Bool} : PeqB true (.val (.bool s)) (.val (.bool t)) K = vlet (TV.val (.bool (!(s == t)))) K := by
  show K _ = _; simp [vlet]
theorem PeqN_t {m b : Bool} : PeqN m (some true) (some b) K = vlet (TV.val (.bool (xor m b))) K := by_refl rfl
theorem PeqN_f {m : Bool} : PeqN m (some false) (some true) K = vlet (TV.val (.bool (xor m false))) K := by_refl rfl
end
theorem Smupd_is {kk : MK} {m : Nat} {kx v : TV} : Smupd kk (.mp m 0) kx v H KK = vget (mapIn kk H[m]?) fun es => vget (kBytes kk kx) fun kb => vand (lays v = true) (vlet (mput kb v es) fun es' => vlet (H.set m (.mpo kk es')) fun H' => KK .any H') := by
  unfold Smupd
  cases hh : H[m]? with
  | none => cases kBytes kk kx <;> simp [hh, mapIn, vget]
  | some o =>
    cases o with
    | mpo kk' es =>
      by_cases hk : kk' = kk
      · subst hk; cases kBytes kk' kx <;> simp [hh, mapIn, vget, vand, vlet]
      · cases kBytes kk kx <;> simp [hh, mapIn, vget, hk]
    | _ => cases kBytes kk kx <;> simp [hh, mapIn, vget]
theorem Sment_is {kk : MK} {m : Nat} {kx z : TV} : Sment kk z (.mp m 0) kx H KK = vget (mapIn kk H[m]?) fun es => vget (kBytes kk kx) fun kb => vlet ((mget kb es).getD z) fun y => vlet (mpos kb es) fun p => vlet (mput kb y es) fun es' => vlet (H.set m (.mpo kk es')) fun H' => KK (.tup [y, .val (.int .i64 (p : Int))]) H' := by
  unfold Sment
  cases hh : H[m]? with
  | none => cases kBytes kk kx <;> simp [hh, mapIn, vget]
  | some o =>
    cases o with
    | mpo kk' es =>
      by_cases hk : kk' = kk
      · subst hk; cases kBytes kk' kx <;> simp [hh, mapIn, vget, vlet]
      · cases kBytes kk kx <;> simp [hh, mapIn, vget, hk]
    | _ => cases kBytes kk kx <;> simp [hh, mapIn, vget]
def anyMap : Option Ob → Option (MK × List (List UInt8 × TV))
  | some (.mpo kk es) => some (kk, es)
  | _ => none
theorem anyMap_is {kk : MK} {es : List (List UInt8 × TV)} : anyMap (some (.mpo kk es)) = some (kk, es) := by simp [anyMap]
theorem Smest_is {m j : Nat} {q : IntKind} {v : TV} : Smest (.mp m 0) (.val (.int q (j : Int))) v H KK = vget (anyMap H[m]?) fun p => vand (lays v = true) (vget p.2[j]? fun y => vlet (p.2.set j (y.1, v)) fun es' => vlet (H.set m (.mpo p.1 es')) fun H' => KK .any H') := by
  unfold Smest
  cases hh : H[m]? with
  | none => simp [hh, anyMap, vget]
  | some o =>
    cases o with
    | mpo kk' es =>
      simp only [hh, anyMap, vget, vand, vlet, Int.natCast_nonneg, true_and, Int.toNat_natCast]
      cases es[j]? <;> simp
    | _ => simp [hh, anyMap, vget]
theorem Pgen_look {kk : MK} {z kx : TV} {ok : Bool} {m : Nat} : Pgen (.look kk z ok) H [.mp m 0, kx] K = vget (mapIn kk H[m]?) fun es => vget (kBytes kk kx) fun kb => vlet (lookT z ok (mget kb es)) K := by
  unfold Pgen gev gLook
  cases hh : H[m]? with
  | none => cases hb : kBytes kk kx <;> simp [hh, hb, mapIn, vget]
  | some o =>
    cases o with
    | mpo kk' es =>
      by_cases hk : kk' = kk
      · subst hk; cases hb : kBytes kk' kx <;> simp [hh, hb, mapIn, vget, vlet]
      · cases hb : kBytes kk kx <;> simp [hh, hb, mapIn, vget, hk]
    | _ => cases hb : kBytes kk kx <;> simp [hh, hb, mapIn, vget]
theorem Pgen_look0 {kk : MK} {z kx : TV} {ok : Bool} : Pgen (.look kk z ok) H [.val (.map none), kx] K = vget (kBytes kk kx) fun kb => vlet (lookT z ok none) K := by
  unfold Pgen gev gLook
  cases hb : kBytes kk kx <;> simp [hb, vget, vlet]
theorem Pgen_lenM {m : Nat} : Pgen .lenM H [.mp m 0] K = vget (anyMap H[m]?) fun p => vlet p.2.length fun n => vlet (TV.val (.int .i64 (n : Int))) K := by
  unfold Pgen gev gLenM
  cases hh : H[m]? with
  | none => simp [hh, anyMap, vget]
  | some o => cases o <;> simp [hh, anyMap, vget, vlet]
theorem Sstore_is {sz : Nat} : Sstore H sz (.op id ver p) y KK = vand (lays y = true ∧ width y = sz) (vget (obIn H[id]? ver) fun z => vget (setP p z y) fun z' => vlet (H.set id (.obj ver z')) fun H' => KK .any H') := by
  unfold Sstore
  simp only [vand]
  congr 1
  cases h : H[id]? with
  | none => simp [obIn, vget]
  | some o =>
    cases o with
    | gone v => simp [obIn, vget]
    | ice v m y => simp [obIn, vget]
    | fact i v t m => simp [obIn, vget]
    | bld v t l => simp [obIn, vget]
    | lp st pe fn N en ps ca cb => simp [obIn, vget]
    | mpo kk es => simp [obIn, vget]
    | sit s pos => simp [obIn, vget]
    | obj v x =>
      by_cases hv : v = ver
      · subst hv; simp only [obIn, vget, vlet, if_true, true_and]; cases setP p x y <;> rfl
      · simp [obIn, vget, hv]
theorem Smks_is {z : TV} {l c : Int} {q2 : IntKind} {bytes : Nat} : Smks H k bytes z (.val (.int q l)) (.val (.int q2 c)) KK = vand (0 ≤ l ∧ l ≤ c ∧ (bytes : Int) * c ≤ 281474976710656 ∧ c ≤ 9223372036854775807) (vlet l.toNat fun l => vlet c.toNat fun c => vlet H.length fun m => vlet (H ++ [.obj 0 (.arr c k (List.replicate c z))]) fun H' => KK (.os k m 0 [] 0 l c) H') := by_refl rfl
/-- A row that may grow: a nil slice, or an object of one's own. -/
theorem Sapp_nil {bytes : Nat} {et : TypeId} : Sapp k bytes et (.val (.slice none 0 0)) (some ys) H KK = vand (ys.length * bytes ≤ 140737488355328 ∧ ys.length ≤ 9223372036854775807) (vlet ys.length fun n => vlet H.length fun m => vlet (H ++ [.obj 1 (.arr n k ys)]) fun H' => KK (.os k m 1 [] 0 n n) H') := by_refl rfl
/-- The array in an object. -/
def arrOb : Option TV → Nat → Option (List TV)
  | some (.arr _ k' cs), k => if k' = k then some cs else none
  | _, _ => none
theorem arrOb_is : arrOb (some (.arr n k cs)) k = some cs := by simp [arrOb]
theorem appO_obj {v n2 : Nat} {et : TypeId} : appO (some (.obj v (.arr n2 k cs))) v k et off n ys = some (.obj (v + 1) (.arr (n + ys.length) k ((cs.drop off).take n ++ ys))) := by simp [appO]
theorem appO_bld {v : Nat} {et : TypeId} {l m : List UInt8} : appO (some (.bld v et l)) v 1 et 0 n (m.map by8) = some (.bld (v + 1) et (l.take n ++ m)) := by
  simp only [appO, isByB_all, unby_all, and_self, if_true]
theorem appO_bld1 {v : Nat} {et : TypeId} {l : List UInt8} {b : UInt8} : appO (some (.bld v et l)) v 1 et 0 n [by8 b] = some (.bld (v + 1) et (l.take n ++ [b])) := appO_bld (m := [b])
theorem lenO_obj {v n2 : Nat} : lenO (some (.obj v (.arr n2 k cs))) = cs.length := by simp [lenO]
theorem lenO_bld {v : Nat} {et : TypeId} {l : List UInt8} : lenO (some (.bld v et l)) = l.length := by simp [lenO]
theorem Sapp_os {bytes : Nat} {et : TypeId} : Sapp k bytes et (.os k id ver [] off n cp) (some ys) H KK = vget (appO H[id]? ver k et off n ys) fun o => vand (off + n ≤ lenO H[id]? ∧ (n + ys.length) * bytes ≤ 140737488355328 ∧ n + ys.length ≤ 9223372036854775807)
      (vlet (n + ys.length) fun m => vlet (H.set id o) fun H' => KK (.os k id (ver + 1) [] 0 m m) H') := by
  unfold Sapp appTo
  simp only [true_and]
  cases h : appO H[id]? ver k et off n ys with
  | none => simp [vget]
  | some o => simp [vget, vand, vlet]
theorem SappS_is {s : ByteArray} {et : TypeId} : SappS et x (.val (.string s)) H KK = vlet ((bl s).map by8) fun ys => Sapp 1 1 et x (some ys) H KK := by_refl rfl
/-- How many elements an array has. -/
def arrN : Option TV → Option Nat
  | some (.arr n _ _) => some n
  | _ => none
theorem arrN_is : arrN (some (.arr n k cs)) = some n := by_refl rfl
theorem Scopy_is : Scopy k (.os k id ver p off n cp) (some ys) H KK = vget (obIn H[id]? ver) fun z => vget (arrOb (getP p z) k) fun cs => vget (arrN (getP p z)) fun N => vand (off + n ≤ cs.length) (vget (setP p z (.arr N k (cs.take off ++ (ys.take n ++ cs.drop (off + min ys.length n))))) fun z' =>
    vlet (H.set id (.obj ver z')) fun H' => vlet (TV.val (.int .i64 (min ys.length n : Nat))) fun r => KK r H') := by
  unfold Scopy copyTo
  simp only [true_and]
  cases h : H[id]? with
  | none => simp [obIn, vget]
  | some o =>
    cases o with
    | gone v => simp [obIn, vget]
    | ice v m y => simp [obIn, vget]
    | fact i v t m => simp [obIn, vget]
    | bld v t l => simp [obIn, vget]
    | lp st pe fn N en ps ca cb => simp [obIn, vget]
    | mpo kk es => simp [obIn, vget]
    | sit s pos => simp [obIn, vget]
    | obj v x =>
      by_cases hv : v = ver
      · simp only [obIn, vget, hv, if_true, true_and]
        cases hg : getP p x with
        | none => simp [arrOb]
        | some y =>
          cases y with
          | arr n2 k2 ds =>
            by_cases h1 : k2 = k
            · subst h1; simp only [arrOb, arrN, vand, vlet, if_true, true_and]; refine congrArg (_ ∧ ·) ?_; cases setP p x (.arr n2 k2 (ds.take off ++ (ys.take n ++ ds.drop (off + min ys.length n)))) <;> rfl
            · simp [arrOb, h1]
          | _ => simp [arrOb]
      · simp [obIn, vget, hv]
theorem ScopyS_is {s : ByteArray} : ScopyS x (.val (.string s)) H KK = vlet ((bl s).map by8) fun ys => Scopy 1 x (some ys) H KK := by_refl rfl
theorem Sbstr_is {f : FuncId} {j v : Nat} {l : List UInt8} : Sbstr P f (some (j, v, l)) H KK = vand (BStr P f) (vand (l.length ≤ 9223372036854775807) (vlet (H.set j (.gone v)) fun H' => KK (.val (.string (str l))) H')) := by_refl rfl
def rowB (o : Option Ob) (j v n : Nat) (a : TV) : Option (Nat × Nat × List UInt8) := match o with
  | some (.bld v3 t l) => if v3 = v ∧ t = byteTy ∧ n = l.length ∧ width a = 1 then some (j, v, l) else none
  | _ => none
def rowAt (H : List Ob) (j v n : Nat) (a : TV) : Option (Nat × Nat × List UInt8) := rowB H[j]? j v n a
def rowIn (H : List Ob) (q : Option TV) : Option (Nat × Nat × List UInt8) := match q with
  | some (.agg [a, .os 1 j v2 [] 0 n cp]) => rowAt H j v2 n a
  | _ => none
theorem rowOf_op {id ver : Nat} {p : List (Nat × Nat)} : rowOf H (.op id ver p) = rowIn H ((obIn H[id]? ver).bind (getP p)) := by
  unfold rowOf
  simp only []
  cases h : H[id]? with
  | none => simp [obIn, rowIn]
  | some o =>
    cases o with
    | obj v y =>
      by_cases hv : v = ver
      · simp only [obIn, hv, if_true, Option.bind_some]
        unfold rowIn rowAt rowB
        rfl
      · simp [obIn, rowIn, hv]
    | _ => simp [obIn, rowIn]
theorem rowIn_is {a : TV} {j v n cp : Nat} : rowIn H (some (.agg [a, .os 1 j v [] 0 n cp])) = rowAt H j v n a := by_refl rfl
theorem rowAt_is {a : TV} {j v n : Nat} : rowAt H j v n a = rowB H[j]? j v n a := by_refl rfl
theorem rowB_is {a : TV} {j v n : Nat} {l : List UInt8} (hn : n = l.length) (ha : width a = 1) : rowB (some (.bld v 5 l)) j v n a = some (j, v, l) := by
  simp [rowB, hn, ha, byteTy]
theorem Ss2b_is {s : ByteArray} : Ss2b H (.val (.string s)) KK = vand ((bl s).length ≤ 9223372036854775807) (vlet (bl s).length fun n => vlet ((bl s).map by8) fun r => vlet H.length fun m => vlet (H ++ [.obj 0 (.arr n 1 r)]) fun H' => KK (.os 1 m 0 [] 0 n n) H') := by_refl rfl
theorem Scallv_fn {f : FuncId} {a b : List TV} : Scallv P (.fn (.func f) a b) cs H KK = vand (isGo P f = true) (vlet (a ++ cs ++ b) fun xs => VC P f xs H KK) := by_refl rfl
theorem Scallv_val {f : FuncId} : Scallv P (.val (.func (.func f) #[] #[])) cs H KK = vand (isGo P f = true) (VC P f cs H KK) := by
  exact propext ⟨fun h => ⟨h.2.1, h.2.2⟩, fun h => ⟨rfl, h.1, h.2⟩⟩
theorem Scallv_yl : Scallv P (.yl id ver) cs H KK = VY P id ver cs H KK := by_refl rfl
theorem Gd_tt {t : Bool} {A B : Prop} : Gd (some t) true A B = vif t A B := by_refl rfl
theorem Gd_tf {t : Bool} {A B : Prop} : Gd (some t) false A B = vif t B A := by cases t <;> simp [Gd, vif]
theorem Gd_n {b : Bool} {A B : Prop} : Gd none b A B = B := by_refl rfl
end

/-! Code. -/
section
variable {Q : VEx → Env → List Ob → Prop} {l : List VO} {kp : List Nat} {a b : VCode}
def Vcond (x : TV) (A B : Prop) [Tg A] [Tg B] : Prop := match x with
    | .val (.bool t) => if t = true then A else B
    | _ => False
@[congr] theorem Vcond_c {x x' : TV} {A B : Prop} (h : x = x') : Vcond x A B = Vcond x' A B := by rw [h]
theorem Vcond_is {t : Bool} {A B : Prop} : Vcond (.val (.bool t)) A B = vif t A B := by_refl rfl
theorem w_ops : vwp P (.ops l kp) Q e H = vops P l (fun e H => vlet (forget kp e) fun e => Q .nor e H) e H := by_refl rfl
theorem w_draw {n : Nat} : vwp P (.draw n l kp) Q e H = (vq P (l.take n) (fun e => vops P (l.drop n) (fun e H => vlet (forget kp e) fun e => Q .nor e H) e H) e H) := by_refl rfl
/-- What follows. -/
def Thn (P : Program) (b : VCode) (Q : VEx → Env → List Ob → Prop) : VEx → Env → List Ob → Prop := fun x e H => match x with | .nor => vwp P b Q e H | .exit i => Q (.exit i) e H | .ret => Q .ret e H
theorem Thn_nor : Thn P b Q .nor e H = vwp P b Q e H := by_refl rfl
theorem Thn_exit {i : Nat} : Thn P b Q (.exit i) e H = Q (.exit i) e H := by_refl rfl
theorem Thn_ret : Thn P b Q .ret e H = Q .ret e H := by_refl rfl
theorem w_seq : vwp P (.seq a b) Q e H = vwp P a (Thn P b Q) e H := by_refl rfl
/-- The end of a block. -/
def Blk (id : Nat) (Q : VEx → Env → List Ob → Prop) : VEx → Env → List Ob → Prop := fun x e H => match x with | .nor => Q .nor e H | .exit i => if i = id then Q .nor e H else Q (.exit i) e H | .ret => Q .ret e H
theorem Blk_nor {id : Nat} : Blk id Q .nor e H = Q .nor e H := by_refl rfl
theorem Blk_exit {id : Nat} : Blk id Q (.exit id) e H = Q .nor e H := by simp [Blk]
theorem Blk_exit_ne {id i : Nat} (h : i ≠ id) : Blk id Q (.exit i) e H = Q (.exit i) e H := by simp [Blk, h]
theorem Blk_ret {id : Nat} : Blk id Q .ret e H = Q .ret e H := by_refl rfl
theorem w_block {id : Nat} : vwp P (.block id a) Q e H = vwp P a (Blk id Q) e H := by_refl rfl
theorem w_cond {c : Opd} : vwp P (.cond c a b) Q e H = Vcond (c.ev e) (vwp P a Q e H) (vwp P b Q e H) := by_refl rfl
/-- The end of a round, from a beginning with n0 objects on. -/
def Rnd (n0 : Nat) (lv : List Nat) (Q : VEx → Env → List Ob → Prop) (I : Nat → Env → List Ob → Prop) (n : Nat) : VEx → Env → List Ob → Prop := fun x e H => match x with
  | .nor => ∃ m g, m < n ∧ (n0 ≤ g ∧ (H.length ≤ g ∨ (belowE g (forget lv e) = true ∧ belowH g (H.take g) = true))) ∧ I m (forget lv e) (H.take g)
  | .exit i => Q (.exit i) e H | .ret => Q .ret e H
section
variable {n0 : Nat} {lv : List Nat} {I : Nat → Env → List Ob → Prop} {n : Nat}
theorem Rnd_exit {i : Nat} : Rnd n0 lv Q I n (.exit i) e H = Q (.exit i) e H := by_refl rfl
theorem Rnd_ret : Rnd n0 lv Q I n .ret e H = Q .ret e H := by_refl rfl
/-- A round's end, all objects kept. -/
theorem Rnd_keep (m : Nat) (hm : m < n) (h : n0 ≤ H.length) (hR : I m (forget lv e) H) : Rnd n0 lv Q I n .nor e H := by
  refine ⟨m, H.length, hm, ⟨h, .inl (Nat.le_refl _)⟩, ?_⟩
  rw [List.take_length]; exact hR
/-- A round's end; the objects from the g-th on are forgotten. -/
theorem Rnd_cut (m g : Nat) (hm : m < n) (h : n0 ≤ g) (he : belowE g (forget lv e) = true) (hH : belowH g (H.take g) = true) (hR : I m (forget lv e) (H.take g)) : Rnd n0 lv Q I n .nor e H :=
  ⟨m, g, hm, ⟨h, .inr ⟨he, hH⟩⟩, hR⟩
end
/-- A LOOP: what holds ahead of each round. -/
theorem w_loop {lv : List Nat} {H0 : List Ob} (I : Nat → Env → List Ob → Prop) (n : Nat) (h0 : I n (forget lv e) H0)
    (hs : ∀ n e H, I n e H → vwp P a (Rnd H0.length lv Q I n) e H) : vwp P (.loop lv a) Q e H0 := by
  rw [v_loop]
  exact ⟨I, n, h0, hs⟩
/-- A LOOP OVER A FUNCTION. -/
theorem w_rfunc {f : Opd} {ps : List Nat} {g : FuncId} {first caps : List TV} (hf : f.ev e = .fn (.func g) first caps) (hg : isGo P g = true) (ha : noRf a = true) (hb : noRf b = true)
    (h : ∀ (N : Nat) (fn : FuncId) (ca cb : Code), RfCode P N ps ca cb a b → VCalls P g (first ++ [.yl H.length 0] ++ caps) (H ++ [.lp .ready none fn N e ps ca cb]) (RfPost Q e H.length)) : vwp P (.rfunc f ps a b) Q e H := by
  rw [vwp, hf]; exact ⟨ha, hb, hg, h⟩
theorem o_g {d s : Nat} {o : VOp} {b : Bool} {r : List VO} {K : Env → List Ob → Prop} : vops P (⟨some d, o, some (s, b)⟩ :: r) K e H = knowB e s fun e q => Gd q b (vop P o e H (fun x H => vops P r K ((d, x) :: e) H)) (vops P r K ((d, .val undef) :: e) H) := by
  rw [vops_g]; refine congrArg (knowB e s) ?_; funext e q; cases q <;> rfl
def knowT (x : TV) (e : Env) (s : Nat) (Q : Env → Option Bool → Prop) [Tg Q] : Prop := match x with
  | .val v => Q e (isB v)
  | .any => (∀ t, Q ((s, .val (.bool t)) :: e) (some t)) ∧ ∀ v, isB v = none → Q ((s, .val v) :: e) none
  | _ => False
@[congr] theorem knowT_c {x x' : TV} {s : Nat} {Q : Env → Option Bool → Prop} (h : x = x') : knowT x e s Q = knowT x' e s Q := by rw [h]
theorem know_T {s : Nat} {Q : Env → Option Bool → Prop} : knowB e s Q = knowT (get e s) e s Q := by_refl rfl
theorem knowT_b {b : Bool} {s : Nat} {Q : Env → Option Bool → Prop} : knowT (.val (.bool b)) e s Q = Q e (some b) := by_refl rfl
theorem knowT_u {s : Nat} {Q : Env → Option Bool → Prop} : knowT (.val undef) e s Q = Q e none := by_refl rfl
theorem u_c {d : Nat} {f : FuncId} {args : List Opd} {r : List VO} {K : Env → Prop} : vq P (⟨some d, .s (.call f args), none⟩ :: r) K e H = vlet (evs e args) fun xs => vand (noTup xs) (vex fun x => VC P f xs H (fun y H' => y = x ∧ H' = H) ∧ vq P r K ((d, x) :: e) H) := by
  rw [vq_c, noTup_of]; rfl
def Gq (x : TV) (b : Bool) (A B : Prop) [Tg A] [Tg B] : Prop := match x with
  | .val v => if isB v = some b then A else B
  | _ => False
@[congr] theorem Gq_c {x x' : TV} {b : Bool} {A B : Prop} (h : x = x') : Gq x b A B = Gq x' b A B := by rw [h]
theorem Gq_t {t : Bool} {A B : Prop} : Gq (.val (.bool t)) true A B = vif t A B := by cases t <;> simp [Gq, vif, isB]
theorem Gq_u {b : Bool} {A B : Prop} : Gq (.val undef) b A B = B := by simp [Gq, isB, undef]
theorem Gq_f {t : Bool} {A B : Prop} : Gq (.val (.bool t)) false A B = vif t B A := by cases t <;> simp [Gq, vif, isB]
theorem u_g {d s : Nat} {o : VOp} {b : Bool} {r : List VO} {K : Env → Prop} : vq P (⟨some d, o, some (s, b)⟩ :: r) K e H = Gq (get e s) b (quiet P o e H fun x => vq P r K ((d, x) :: e) H) (vq P r K ((d, .val undef) :: e) H) := by_refl rfl
theorem u_qc {f : FuncId} {args : List Opd} {k : TV → Prop} : quiet P (.s (.call f args)) e H k = vlet (evs e args) fun xs => vand (noTup xs) (vex fun x => VC P f xs H (fun y H' => y = x ∧ H' = H) ∧ k x) := by
  rw [quiet_c, noTup_of]; rfl
def OwnT (P : Program) (x : TV) (s k : Nat) (c : VCode) (Q : VEx → Env → List Ob → Prop) (e : Env) (H : List Ob) : Prop := match x with
    | .val (.slice none 0 0) => vwp P c Q ((s, .os k H.length 0 [] 0 0 0) :: e) (H ++ [.obj 0 (.arr 0 k [])])
    | _ => vwp P c Q e H
@[congr] theorem OwnT_c {x x' : TV} {s k : Nat} (h : x = x') : OwnT P x s k a Q e H = OwnT P x' s k a Q e H := by rw [h]
theorem w_own {s k : Nat} : vwp P (.own s k a) Q e H = OwnT P (get e s) s k a Q e H := by_refl rfl
theorem OwnT_nil {s k : Nat} : OwnT P (.val (.slice none 0 0)) s k a Q e H = vwp P a Q ((s, .os k H.length 0 [] 0 0 0) :: e) (H ++ [.obj 0 (.arr 0 k [])]) := by_refl rfl
theorem OwnT_os {s k k' id ver off n cp : Nat} {p : List (Nat × Nat)} : OwnT P (.os k' id ver p off n cp) s k a Q e H = vwp P a Q e H := by_refl rfl
end
/-- Results. -/
theorem y_tmp {t : Nat} {K : TV → Prop} : res [.tmp t] e H K = vlet (get e t) K := by_refl rfl
theorem yL_tmp {t : Nat} {r : List VR} {K : List TV → Prop} : resL (.tmp t :: r) e H K = vlet (get e t) fun x => resL r e H fun xs => K (x :: xs) := by_refl rfl
def resM (K : TV → Prop) (xs : List TV) : Prop := match xs with
  | [x] => K x
  | xs => (∀ x ∈ xs, isTup x = false) ∧ K (.tup xs)
theorem resM_two {x y : TV} {l : List TV} {K : TV → Prop} : resM K (x :: y :: l) = vand (noTup (x :: y :: l)) (vlet (TV.tup (x :: y :: l)) K) := by_refl rfl
theorem y_many {r s : VR} {l : List VR} {K : TV → Prop} : res (r :: s :: l) e H K = resL (r :: s :: l) e H (resM K) := by_refl rfl
theorem y_cell {a sz : Nat} {ag : Bool} {K : TV → Prop} : res [.cell a ag sz] e H K = pop (.load ag sz (.t a)) e H K := by_refl rfl
theorem y_nil {K : TV → Prop} : res [] e H K = K (.tup []) := by rw [res_nil]; simp
end

/-! Bundles for simp. -/
def vmPre := (And.intro (And.intro (And.intro (And.intro (And.intro (And.intro (And.intro @r_mov @r_pick) (And.intro @r_bin @r_un)) (And.intro (And.intro @r_conv @r_s2s) (And.intro @r_b2s @r_load))) (And.intro (And.intro (And.intro @r_fieldA @r_field) (And.intro @r_idxA @r_idxAA)) (And.intro (And.intro @r_idx @r_idxS) (And.intro @r_ext @r_lenS)))) (And.intro (And.intro (And.intro (And.intro @r_lenV @r_slS) (And.intro @r_slV @r_slA)) (And.intro (And.intro @r_iface @r_mkf) (And.intro @r_nilc @r_min))) (And.intro (And.intro (And.intro @r_max @r_eqB) (And.intro @r_eqN @r_gen)) (And.intro (And.intro @r_build @r_buildA) (And.intro @s_alloc @s_allocT))))) (And.intro (And.intro (And.intro (And.intro (And.intro @s_box @s_boxT) (And.intro @s_bstr @s_rngS)) (And.intro (And.intro @s_nxtS @s_bslice) (And.intro @s_store @s_mks))) (And.intro (And.intro (And.intro @s_app @s_appS) (And.intro @s_copy @s_copyS)) (And.intro (And.intro @s_s2b @s_mkm0) (And.intro @s_mkm1 @s_mupd)))) (And.intro (And.intro (And.intro (And.intro @s_ment @s_mest) (And.intro @s_call @s_callv)) (And.intro (And.intro @w_ops @w_draw) (And.intro @v_skip @w_seq))) (And.intro (And.intro (And.intro @w_block @w_cond) (And.intro @v_exit @v_ret)) (And.intro (And.intro @v_scope @w_own) (And.intro @v_ownB @v_ownT)))))) (And.intro (And.intro (And.intro (And.intro (And.intro (And.intro @vops_nil @vops_p) (And.intro @vops_s @vops_s0)) (And.intro (And.intro @o_g @know_T) (And.intro @vop_p @vop_s))) (And.intro (And.intro (And.intro @vq_nil @vq_p) (And.intro @u_c @u_g)) (And.intro (And.intro @quiet_p @u_qc) (And.intro @atEnd_ret @atEnd_nor)))) (And.intro (And.intro (And.intro (And.intro @y_tmp @y_cell) (And.intro @y_nil @y_many)) (And.intro (And.intro @resL_nil @yL_tmp) (And.intro @resL_cell @resM_two))) (And.intro (And.intro (And.intro @Thn_nor @Thn_exit) (And.intro @Thn_ret @Blk_nor)) (And.intro (And.intro @Blk_exit @Blk_exit_ne) (And.intro @Blk_ret @Rnd_exit))))) @Rnd_ret))
def vmPost := (And.intro (And.intro (And.intro (And.intro (And.intro (And.intro (And.intro (And.intro @vif_true @vif_false) (And.intro @vif_not @vif_and)) (And.intro (And.intro @vif_or @vif_dt) (And.intro @vif_df @vget_some))) (And.intro (And.intro (And.intro @vget_map @vget_at) (And.intro @vand_and @vand_T)) (And.intro (And.intro @vand_true @vlet_is) (And.intro @obIn_obj @ob_app)))) (And.intro (And.intro (And.intro (And.intro @ob_app1 @ob_low) (And.intro @ob_set @ob_set_ne)) (And.intro (And.intro @obs_app @obs_app1) (And.intro @obs_low @Ppick_is))) (And.intro (And.intro (And.intro @Pbin_is @Pun_is) (And.intro @Pconv_is @Ps2s_is)) (And.intro (And.intro @Pb2s_is @Pload_fp) (And.intro @Pload_op @PfieldA_op))))) (And.intro (And.intro (And.intro (And.intro (And.intro @PfieldA_fp @Pfield_is) (And.intro @PidxA_sl @PidxA_os)) (And.intro (And.intro @PidxAA_fp @PidxAA_op) (And.intro @Pidx_is @PidxS_is))) (And.intro (And.intro (And.intro @Pext_is @PlenS_is) (And.intro @PlenV_sl @PlenV_os)) (And.intro (And.intro @PlenV_val @bndV_nn) (And.intro @bndV_sn @bndV_ns)))) (And.intro (And.intro (And.intro (And.intro @bndV_ss @PslS_is) (And.intro @PslV_sl @PslV_os)) (And.intro (And.intro @PslV_val @PslA_fp) (And.intro @arrIn_is @PslA_op))) (And.intro (And.intro (And.intro @Piface_is @Pmkf_is) (And.intro @Pnilc_op @Pnilc_fp)) (And.intro (And.intro @Pnilc_fn @Pnilc_ifc) (And.intro @Pnilc_func @Pmin_is)))))) (And.intro (And.intro (And.intro (And.intro (And.intro (And.intro @Pmax_is @PeqB_f) (And.intro @PeqB_t @PeqN_t)) (And.intro (And.intro @PeqN_f @Pgen_sl3) (And.intro @Pgen_eqA @Pgen_look))) (And.intro (And.intro (And.intro @Pgen_look0 @Pgen_lenM) (And.intro @Pgen_r2s @mapIn_is)) (And.intro (And.intro @anyMap_is @kB_str) (And.intro @kB_arr @lookT_f)))) (And.intro (And.intro (And.intro (And.intro @lookT_t @Smkm_is) (And.intro @Smupd_is @Sment_is)) (And.intro (And.intro @Smest_is @Option.getD_none.{0}) (And.intro @Option.getD_some.{0} @Sstore_is))) (And.intro (And.intro (And.intro @Smks_is @Sapp_nil) (And.intro @arrOb_is @appO_obj)) (And.intro (And.intro @appO_bld @appO_bld1) (And.intro @lenO_obj @lenO_bld))))) (And.intro (And.intro (And.intro (And.intro (And.intro @Sapp_os @SappS_is) (And.intro @arrN_is @Scopy_is)) (And.intro (And.intro @ScopyS_is @Ss2b_is) (And.intro @Sbstr_is @SrngS_is))) (And.intro (And.intro (And.intro @SnxtS_is @sitIn_is) (And.intro @rowOf_op @rowIn_is)) (And.intro (And.intro @rowAt_is @rowB_is) (And.intro @Scallv_fn @Scallv_val)))) (And.intro (And.intro (And.intro (And.intro @Scallv_yl @Gd_tt) (And.intro @Gd_tf @Gd_n)) (And.intro (And.intro @Vcond_is @knowT_b) (And.intro @knowT_u @Gq_t))) (And.intro (And.intro (And.intro @Gq_f @Gq_u) (And.intro @OwnT_nil @OwnT_os)) (And.intro (And.intro @evO_none @evO_some) (And.intro @evs_nil @evs_cons))))))) (And.intro @noTup_nil @noTup_cons))
def vmWrd := (And.intro (And.intro (And.intro (And.intro (And.intro (And.intro (And.intro (And.intro @isAg_val @isAg_any) (And.intro @isAg_sl @isAg_fp)) (And.intro (And.intro @isAg_op @isAg_os) (And.intro @isAg_agg @isAg_arr))) (And.intro (And.intro (And.intro @isAg_tup @isAg_ifc) (And.intro @isAg_fn @isAg_mp)) (And.intro (And.intro @isAg_yl @isTup_val) (And.intro @isTup_any @isTup_sl)))) (And.intro (And.intro (And.intro (And.intro @isTup_fp @isTup_op) (And.intro @isTup_os @isTup_agg)) (And.intro (And.intro @isTup_arr @isTup_tup) (And.intro @isTup_ifc @isTup_fn))) (And.intro (And.intro (And.intro @isTup_mp @isTup_yl) (And.intro @lays_any @lays_sl)) (And.intro (And.intro @lays_fp @lays_op) (And.intro @lays_os @lays_agg))))) (And.intro (And.intro (And.intro (And.intro (And.intro @lays_arr @lays_tup) (And.intro @lays_ifc @lays_fn)) (And.intro (And.intro @lays_mp @lays_yl) (And.intro @pureT_val @pureT_any))) (And.intro (And.intro (And.intro @pureT_sl @pureT_fp) (And.intro @pureT_op @pureT_os)) (And.intro (And.intro @pureT_arr @pureT_mp) (And.intro @pureT_yl @width_val)))) (And.intro (And.intro (And.intro (And.intro @width_any @width_sl) (And.intro @width_fp @width_op)) (And.intro (And.intro @width_os @width_tup) (And.intro @width_ifc @width_fn))) (And.intro (And.intro (And.intro @width_mp @width_yl) (And.intro @width_agg @width_arr)) (And.intro (And.intro @widths_nil @widths_cons) (And.intro @pureT_agg @pureT_ifc)))))) (And.intro (And.intro (And.intro (And.intro (And.intro (And.intro @pureT_tup @pureL_nil) (And.intro @pureL_cons @lays_int)) (And.intro (And.intro @lays_bool @lays_string) (And.intro @lays_pointer @lays_slice))) (And.intro (And.intro (And.intro @lays_map @lays_func) (And.intro @lays_nilFunc @lays_nilIface)) (And.intro (And.intro @ev_t @ev_c) (And.intro @ev_g @getP_nil)))) (And.intro (And.intro (And.intro (And.intro @getP_agg @getP_arr) (And.intro @setP_nil @setP_agg)) (And.intro (And.intro @setP_arr @forget_nil) (And.intro @forget_cons @argsE_nil))) (And.intro (And.intro (And.intro @argsE_cons @ldOk_iff) (And.intro @elemsOf_sl @elemsOf_nil)) (And.intro (And.intro @elemsOf_os @elemsAt_nil) (And.intro @fills_nil @fills_cons))))) (And.intro (And.intro (And.intro (And.intro (And.intro @fillsOk_nil @fillsOk_cons) (And.intro @fillsPure_nil @fillsPure_cons)) (And.intro (And.intro @res_tmp @res_cell) (And.intro @res_nil @res_many))) (And.intro (And.intro (And.intro @resL_nil @resL_tmp) (And.intro @resL_cell @atEnd_ret)) (And.intro (And.intro @atEnd_nor @frzG_val) (And.intro @frzG_any @frzG_sl)))) (And.intro (And.intro (And.intro (And.intro @frzG_fp @frzG_arr) (And.intro @frzG_os @frzG_op)) (And.intro (And.intro @frzG_agg @frzG_tup) (And.intro @frzG_ifc @frzGL_nil))) (And.intro (And.intro (And.intro @frzGL_cons @frs_val) (And.intro @frs_any @frs_os)) (And.intro (And.intro @frs_agg @frs_arr) (And.intro @frs_tup @frs_ifc))))))) (And.intro (And.intro (And.intro @frsL_nil @frsL_cons) (And.intro @scalL_by8 @scalL_ts)) (And.intro (And.intro @frz_D @frzL_D) @frzD_s)))
theorem map_drop_s {α β : Type} {f : α → β} {l : List α} {i : Nat} : (l.map f).drop i = (l.drop i).map f := List.map_drop.symm
theorem map_take_s {α β : Type} {f : α → β} {l : List α} {i : Nat} : (l.map f).take i = (l.take i).map f := List.map_take.symm
theorem w64_u8 {b : UInt8} : IntKind.i64.wrap (b.toNat : Int) = b.toNat := wrap64_id (by omega) (by have := b.toNat_lt; omega)
theorem w8_nat {n : Nat} : IntKind.u8.wrap (n : Int) = ((UInt8.ofNat n).toNat : Int) := by
  rw [IntKind.wrap_u8, UInt8.toNat_ofNat']; omega
theorem rep_at {α : Type} {n i : Nat} {a : α} (h : i < n) : (List.replicate n a)[i]? = some a := by simp [h]
/-! Numbers from 0 on: all as casts. -/
section
variable {a b c : Nat}
theorem cast_mul : (a : Int) * (b : Int) = ((a * b : Nat) : Int) := by_refl rfl
theorem cast_sub (h : b ≤ a) : (a : Int) - (b : Int) = ((a - b : Nat) : Int) := by omega
theorem cast_div : (a : Int) / (b : Int) = ((a / b : Nat) : Int) := by_refl rfl
theorem cast_mod : (a : Int) % (b : Int) = ((a % b : Nat) : Int) := by_refl rfl
variable {t : TypeId} {k2 : IntKind}
theorem b_shlN (h1 : b ≤ 63) (h2 : a * 2 ^ b ≤ 9223372036854775807) : binV t .shl (.int .i64 (a : Int)) (.int k2 (b : Int)) = some (.int .i64 ((a * 2 ^ b : Nat) : Int)) := by
  have e : (a : Int) * 2 ^ ((b : Int).toNat) = ((a * 2 ^ b : Nat) : Int) := by rw [Int.toNat_natCast, Int.natCast_mul, Int.natCast_pow]; rfl
  rw [b_shl (by omega) (by omega) (by rw [e]; omega) (by rw [e]; omega), e]
theorem b_shrN (h1 : b ≤ 63) : binV t .shr (.int .i64 (a : Int)) (.int k2 (b : Int)) = some (.int .i64 ((a / 2 ^ b : Nat) : Int)) := by
  have e : (a : Int) / 2 ^ ((b : Int).toNat) = ((a / 2 ^ b : Nat) : Int) := by rw [Int.toNat_natCast, Int.natCast_ediv, Int.natCast_pow]; rfl
  rw [b_shr (by omega) (by omega) (by omega), e]
variable {k : IntKind}
theorem b_remN (h : b ≠ 0) : binV t .rem (.int k (a : Int)) (.int k (b : Int)) = some (.int k ((a % b : Nat) : Int)) := by rw [b_rem (by omega) (by omega), Int.natCast_emod]
theorem b_quoN (h : b ≠ 0) (h2 : a ≤ 9223372036854775807) : binV t .quo (.int .i64 (a : Int)) (.int .i64 (b : Int)) = some (.int .i64 ((a / b : Nat) : Int)) := by rw [b_quo (by omega) (by omega) (by omega), Int.natCast_ediv]
end
theorem VCalls.toPureV {P : Program} {f : FuncId} {args : List TV} {R : TV → Prop} (h : VCalls P f args [] fun x H' => vget (frz H' x) R) : VPure P f args R :=
  VCalls.toPure (h.mono fun x H' hx => by
    cases hf : frz H' x with
    | none => rw [hf] at hx; exact hx
    | some y => rw [hf] at hx; exact hx)
theorem VCalls.toFreshV {P : Program} {f : FuncId} {args : List TV} {R : TV → Prop} (h : VCalls P f args [] fun x H' => vget (frs H' x) R) : VFresh P f args R :=
  VCalls.toFresh (h.mono fun x H' hx => by
    cases hf : frs H' x with
    | none => rw [hf] at hx; exact hx
    | some y => rw [hf] at hx; exact hx)
theorem take_all {α : Type} {l : List α} {n : Nat} (h : l.length ≤ n) : l.take n = l := List.take_of_length_le h
theorem ite_t {α : Type} {c : Prop} [Decidable c] {a b : α} (h : c) : (if c then a else b) = a := if_pos h
theorem ite_f {α : Type} {c : Prop} [Decidable c] {a b : α} (h : ¬ c) : (if c then a else b) = b := if_neg h
theorem len_take_le {α : Type} {l : List α} {n : Nat} (h : n ≤ l.length) : (l.take n).length = n := by simp [h]
theorem take_drop_all {α : Type} {l : List α} {i : Nat} : (l.drop i).take (l.length - i) = l.drop i := List.take_of_length_le (by simp)
theorem add_sub2 {a b : Nat} : a + b - a = b := Nat.add_sub_cancel_left a b
theorem take_app {α : Type} {l m : List α} : (l ++ m).take l.length = l := List.take_left
theorem drop_app {α : Type} {l m : List α} : (l ++ m).drop l.length = m := List.drop_left
theorem add_sub1 {a b : Nat} : a + b - b = a := Nat.add_sub_cancel a b
def vmDat := (And.intro (And.intro (And.intro (And.intro (And.intro (And.intro (And.intro @take_app @drop_app) (And.intro @add_sub2 @take_drop_all)) (And.intro (And.intro @len_take_le @List.length_drop.{0}) (And.intro @ite_t @ite_f))) (And.intro (And.intro (And.intro @take_all @add_sub1) (And.intro @Nat.zero_le @get_if)) (And.intro (And.intro @List.nil_append.{0} @List.length_nil.{0}) (And.intro @List.length_cons.{0} @List.cons_append.{0})))) (And.intro (And.intro (And.intro (And.intro @List.getElem?_cons_zero.{0} @List.getElem?_cons_succ.{0}) (And.intro @List.set_cons_zero.{0} @List.set_cons_succ.{0})) (And.intro (And.intro @List.map_cons.{0,0} @List.map_nil.{0,0}) (And.intro @calm_int @calm_str))) (And.intro (And.intro (And.intro @true_and @and_true) (And.intro @List.take_zero.{0} @List.take_succ_cons.{0})) (And.intro (And.intro @List.drop_succ_cons.{0} @List.take_nil.{0}) (And.intro @List.drop_nil.{0} @Nat.zero_add))))) (And.intro (And.intro (And.intro (And.intro (And.intro @b_add @b_mul) (And.intro @b_sub @b_eql)) (And.intro (And.intro @b_neq @b_lss) (And.intro @b_leq @b_gtr))) (And.intro (And.intro (And.intro @b_geq @b_and) (And.intro @b_or @b_remN)) (And.intro (And.intro @b_quoN @b_xor8) (And.intro @ptrNil_p0 @ptrNil_op)))) (And.intro (And.intro (And.intro (And.intro @ptrNil_fp @ptrNil_i0) (And.intro @ptrNil_ifc @ptrNil_m0)) (And.intro (And.intro @ptrNil_mp @ptrNil_f0) (And.intro @ptrNil_fn @ptrNil_yl))) (And.intro (And.intro (And.intro @Bool.false_xor @Bool.true_xor) (And.intro @s_eql @s_neq)) (And.intro (And.intro @u_not @decide_true) (And.intro @decide_false @Bool.not_true)))))) (And.intro (And.intro (And.intro (And.intro (And.intro (And.intro @Bool.not_false @not_true_eq_false) (And.intro @not_false_eq_true @Bool.false_eq_true)) (And.intro (And.intro @Bool.true_eq_false @Option.bind_some.{0,0}) (And.intro @Option.map_some.{0,0} @Bool.and_self))) (And.intro (And.intro (And.intro @and_self @Nat.sub_zero) (And.intro @Nat.mul_one @List.length_map.{0,0})) (And.intro (And.intro @Int.toNat_natCast @List.getElem?_map.{0,0}) (And.intro @Int.natCast_nonneg @List.length_append.{0})))) (And.intro (And.intro (And.intro (And.intro @List.drop_zero.{0} @map_drop_s) (And.intro @map_take_s @map_unby)) (And.intro (And.intro @all_isBy @cast_add) (And.intro @cast_lt @cast_le))) (And.intro (And.intro (And.intro @cast_eq @cast_nn) (And.intro @List.replicate_zero.{0} @List.take_length.{0})) (And.intro (And.intro @List.length_set.{0} @List.length_replicate.{0}) (And.intro @w64_u8 @wrap64_id))))) (And.intro (And.intro (And.intro (And.intro @w8_nat @List.set_set.{0}) (And.intro @List.getElem?_nil.{0} @rep_at)) (And.intro (And.intro @cast_mul @cast_sub) (And.intro @cast_div @cast_mod))) (And.intro @b_shlN @b_shrN))))
end Go.Proofs.YtijidndhlgbjhaaDoor
