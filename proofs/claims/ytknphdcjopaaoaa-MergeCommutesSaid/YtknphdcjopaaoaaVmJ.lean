/- Functions: out of the condition of a body, what a call does; calls that leave nothing behind. No program in sight. -/
import Derived.Test.YtknphdcjopaaoaaVmM
namespace Go.Proofs.Ytknphdcjopaaoaa
open Go.RowKit
set_option linter.unusedVariables false
set_option autoImplicit false

inductive VR where
  | tmp (t : Nat)
  | cell (a : Nat) (ag : Bool) (sz : Nat)
  deriving Inhabited
def trR (P : Program) : List ResultVar → Option (List VR)
  | [] => some []
  | .tmp t :: r => (trR P r).map (.tmp t :: ·)
  | .cell a t :: r => match aggB P t, szOf P t, trR P r with
    | some ag, some sz, some r => some (.cell a ag sz :: r)
    | _, _, _ => none

def resL : List VR → Env → List Ob → (List TV → Prop) → Prop
  | [], e, H, K => K []
  | .tmp t :: r, e, H, K => resL r e H fun xs => K (get e t :: xs)
  | .cell a ag sz :: r, e, H, K => pop (.load ag sz (.t a)) e H fun x => resL r e H fun xs => K (x :: xs)
def res (r : List VR) (e : Env) (H : List Ob) (K : TV → Prop) : Prop := resL r e H fun xs => match xs with
  | [x] => K x
  | xs => (∀ x ∈ xs, isTup x = false) ∧ K (.tup xs)

section
variable {P : Program}
/-- A result that is read. -/
def rv (a : Act) (r : ResultVar) : Sem Value := match r with
  | .tmp t => pure (a.tmps.getD t undef)
  | .cell x t => do loadVar t (← asAddr (a.tmps.getD x undef))

theorem resL_run {c : Ctx} {w : World} {e : Env} {a : Act} (hs : Sim c w) (he : EnvOk c w e a) : ∀ {rs : List ResultVar} {vr : List VR} {K : List TV → Prop}, trR P rs = some vr → resL vr e c.H K →
    ∃ (xs : List TV) (vs : List Value), (rs.mapM (rv a)).run P w = .ok vs w ∧ xs.length = vs.length ∧ (∀ (i : Nat) x v, xs[i]? = some x → vs[i]? = some v → Rep c w x v) ∧ K xs
  | [], vr, K, ht, h => by
    simp only [trR, Option.some.injEq] at ht; subst ht
    exact ⟨[], [], rfl, rfl, by simp, h⟩
  | .tmp t :: rs, vr, K, ht, h => by
    simp only [trR, Option.map_eq_some_iff] at ht
    obtain ⟨r, hr, rfl⟩ := ht
    rw [resL] at h
    obtain ⟨xs, vs, h1, h2, h3, h4⟩ := resL_run hs he hr h
    refine ⟨get e t :: xs, a.tmps.getD t undef :: vs, by rw [List.mapM_cons]; simp only [rv, Sem.run_bind, Sem.run_pure, Result.andThen_ok, h1], by simp [h2], ?_, h4⟩
    intro i x v hx hv
    cases i with
    | zero => simp at hx hv; subst hx; subst hv; simpa using he.1 t
    | succ i => exact h3 i x v (by simpa using hx) (by simpa using hv)
  | .cell b t :: rs, vr, K, ht, h => by
    simp only [trR] at ht
    split at ht
    · rename_i ag sz r h1 h2 hr
      cases ht
      rw [resL] at h
      have hy := y_load (P := P) (a := a) (ty := 0) hs he h1 h2 (x := .tmp b) h
      obtain ⟨x, v, hrun, hx, hK⟩ := hy ⟨none, .load t (.tmp b), 0, "", #[], none⟩ rfl rfl
      have hload : (do loadVar t (← asAddr (a.tmps.getD b undef)) : Sem Value).run P w = .ok v w := by
        simp only [execOp, Instr.loadAt, Sem.run_bind, Act.eval] at hrun
        simp only [Sem.run_bind]
        cases hp : a.tmps.getD b undef with
        | pointer p =>
          rw [hp] at hrun
          cases p with
          | none => simp [Instr.sureAddr, stuck] at hrun
          | some ad =>
            simp only [Instr.sureAddr, Sem.run_pure, Result.andThen_ok, asAddr] at hrun ⊢
            cases hl : (loadVar t ad).run P w with
            | ok u w2 => rw [hl] at hrun; simp only [Result.andThen_ok, Sem.run_pure] at hrun; cases hrun; rfl
            | halt hh w2 => rw [hl] at hrun; simp at hrun
        | _ => rw [hp] at hrun; simp [Instr.sureAddr, stuck] at hrun
      obtain ⟨xs, vs, h3, h4, h5, h6⟩ := resL_run hs he hr hK
      refine ⟨x :: xs, v :: vs, by rw [List.mapM_cons, Sem.run_bind]; show Result.andThen ((rv a (.cell b t)).run P w) _ = _; rw [show (rv a (.cell b t)).run P w = .ok v w from hload]; simp only [Result.andThen_ok, Sem.run_bind, h3, Sem.run_pure], by simp [h4], ?_, h6⟩
      intro i y u hy hu
      cases i with
      | zero => simp at hy hu; subst hy; subst hu; exact hx
      | succ i => exact h5 i y u (by simpa using hy) (by simpa using hu)
    · cases ht

theorem res_run {c : Ctx} {w : World} {e : Env} {a : Act} (hs : Sim c w) (he : EnvOk c w e a) {fn : Func} {vr : List VR} {K : TV → Prop} (ht : trR P fn.results.toList = some vr) (h : res vr e c.H K) :
    ∃ x v, (results fn a.tmps).run P w = .ok v w ∧ Rep c w x v ∧ K x := by
  obtain ⟨xs, vs, h1, h2, h3, h4⟩ := resL_run hs he ht h
  have hrun : (fn.results.mapM (rv a)).run P w = .ok vs.toArray w := by
    rw [Array.mapM_eq_mapM_toList]
    simp only [Sem.run_map, h1, Result.andThen_ok]
  have hres : (results fn a.tmps).run P w = .ok (if h : vs.toArray.size = 1 then vs.toArray[0] else .tuple vs.toArray) w := by
    have : results fn a.tmps = (do let vs ← fn.results.mapM (rv a); pure (if h : vs.size = 1 then vs[0] else .tuple vs)) := rfl
    rw [this, Sem.run_bind, hrun]; rfl
  rcases xs with _ | ⟨x, _ | ⟨y, xs⟩⟩
  · have hv : vs = [] := List.length_eq_zero_iff.1 (by simpa using h2.symm)
    subst hv
    exact ⟨_, _, hres, .inr ⟨[], [], rfl, rfl, by rw [RepL]⟩, h4.2⟩
  · obtain ⟨v, rfl⟩ := List.length_eq_one_iff.1 (by simpa using h2.symm)
    exact ⟨_, _, hres, h3 0 x v rfl rfl, h4⟩
  · rcases vs with _ | ⟨u, _ | ⟨v, vs⟩⟩
    · simp at h2
    · simp at h2
    · refine ⟨_, _, hres, .inr ⟨_, u :: v :: vs, rfl, by simp, ?_⟩, h4.2⟩
      have key : ∀ (xs : List TV) (vs : List Value), xs.length = vs.length → (∀ x ∈ xs, isTup x = false) → (∀ (i : Nat) x v, xs[i]? = some x → vs[i]? = some v → Rep c w x v) → RepL c w xs vs := by
        intro xs
        induction xs with
        | nil => intro vs h _ _; rw [RepL]; exact List.length_eq_zero_iff.1 h.symm
        | cons x xs ih =>
          intro vs hl ht hr
          cases vs with
          | nil => simp at hl
          | cons v vs =>
            refine RepL.cons.2 ⟨v, vs, rfl, ?_, ih vs (by simpa using hl) (fun y hy => ht y (by simp [hy])) fun i y u hy hu => hr (i + 1) y u (by simpa using hy) (by simpa using hu)⟩
            rcases hr 0 x v rfl rfl with h | ⟨ys, us, rfl, _⟩
            · exact h
            · have := ht (.tup ys) (by simp); simp [isTup] at this
      exact key _ _ h2 h4.1 h3

def argsE : Nat → List TV → Env
  | _, [] => []
  | i, x :: xs => (i, x) :: argsE (i + 1) xs
theorem get_argsE : ∀ (xs : List TV) (i s : Nat), get (argsE i xs) s = if i ≤ s then (xs[s - i]?).getD .any else .any
  | [], i, s => by simp [argsE, get]
  | x :: xs, i, s => by
    rw [argsE, get_cons, get_argsE xs (i + 1) s]
    by_cases h : i = s
    · subst h; simp
    · rw [if_neg h]
      by_cases h2 : i ≤ s
      · rw [if_pos (by omega), if_pos h2, show s - i = (s - (i + 1)) + 1 from by omega, List.getElem?_cons_succ]
      · rw [if_neg (by omega), if_neg h2]

theorem RepL.get {c : Ctx} {w : World} : ∀ {xs : List TV} {vs : List Value}, RepL c w xs vs → xs.length = vs.length ∧ ∀ (i : Nat) x, xs[i]? = some x → ∃ v, vs[i]? = some v ∧ Rep c w x v
  | [], vs, h => by rw [RepL] at h; subst h; simp
  | x :: xs, vs, h => by
    obtain ⟨u, us, rfl, h1, h2⟩ := RepL.cons.1 h
    obtain ⟨h3, h4⟩ := RepL.get h2
    refine ⟨by simp [h3], fun i y hy => ?_⟩
    cases i with
    | zero => simp at hy; subst hy; exact ⟨u, rfl, .inl h1⟩
    | succ i => simpa using h4 i y (by simpa using hy)

/-- The end of a body. -/
def atEnd (vr : List VR) (R : TV → List Ob → Prop) : VEx → Env → List Ob → Prop
  | .nor, e, H => res vr e H fun x => R x H
  | .ret, e, H => res vr e H fun x => R x H
  | .exit _, _, _ => False

/-- A block that is nobody's turns. -/
theorem Sim.nobody {c : Ctx} {w : World} (hs : Sim c w) {r : Nat} {o o' : Obj} (hr : w.heap[r]? = some o) (h1 : ¬ c.own r) (h2 : ¬ c.F r) (hsh : (w.putObj r o').shape? r = w.shape? r) : Sim c (w.putObj r o') ∧ Mono c w c (w.putObj r o') := by
  have hoth : ∀ b, b ≠ r → (w.putObj r o').heap[b]? = w.heap[b]? := fun b hb => World.putObj_heap_other hb
  have hm : Mono c w c (w.putObj r o') := ⟨fun b hb => ⟨hb, hoth b fun e => h2 (e ▸ hb)⟩, fun _ _ h => ⟨h, rfl⟩, fun b _ => by
    by_cases hb : b = r
    · subst hb; exact hsh
    · exact shape_of_block (hoth b hb)⟩
  refine ⟨⟨fun id ob ho => ObIs.mono hm (Ctx.has_of ho) (fun hl b off hb => hoth b fun e => h1 (e ▸ Ctx.own_of ho hl hb)) (hs.ob id ob ho), hs.inj, hs.apart, fun b hb => ?_, hs.glob.keep hm.stay⟩, hm⟩
  rw [(putObj_os w r o').2.2.2]; exact hs.lt b hb
theorem Later.nobody {c0 c : Ctx} {w0 w : World} (h : Later c0 w0 c w) {r : Nat} {o' : Obj} (hr : w0.heap.size ≤ r) : Later c0 w0 c (w.putObj r o') :=
  ⟨h.os, h.tape, h.output, by rw [(putObj_os w r o').2.2.2]; exact h.size, h.has, fun b hb => (shape_of_block (World.putObj_heap_other (by omega))).trans (h.shape b hb), fun b hb ho => (World.putObj_heap_other (by omega)).trans (h.same b hb ho), h.keepF, h.oldF, h.oldOwn⟩
/-- The blocks are shut on the way out. -/
theorem Marks.shut {FF : Fence} {n : Nat} {fn : Func} {tmps : Array Value} {R : Ending → World → Prop} {B : Nat} {c : Ctx} : ∀ {D : List Deferred} {w : World}, Marks B c w D → Sim c w →
    ∃ wF, (LeavesInM FF n P fn tmps R [] .returning wF → LeavesInM FF n P fn tmps R D .returning w) ∧ Sim c wF ∧ Mono c w c wF ∧ ∀ (c0 : Ctx) (w0 : World), w0.heap.size ≤ B → Later c0 w0 c w → Later c0 w0 c wF := by
  rintro D w ⟨ds, rfl, hnd, hds⟩ hs
  induction ds generalizing w with
  | nil => exact ⟨w, fun h => h, hs, Mono.heap rfl, fun c0 w0 _ h => h⟩
  | cons r ds ih =>
    obtain ⟨k1, k2, k3, k4, k5⟩ := hds r (by simp)
    rw [List.nodup_cons] at hnd
    have hput := World.putObj_heap_same (w := w) (o := .deferred none) k2
    obtain ⟨s1, s2⟩ := hs.nobody (o' := .deferred none) k5 k3 k4 (by simp [World.shape?, hput, k5])
    obtain ⟨wF, e1, e2, e3, e4⟩ := ih (w := w.putObj r (.deferred none)) hnd.2 (fun q hq => by
      obtain ⟨q1, q2, q3, q4, q5⟩ := hds q (by simp [hq])
      have hne : q ≠ r := fun e => hnd.1 (e ▸ hq)
      exact ⟨q1, by rw [(putObj_os w r _).2.2.2]; exact q2, q3, q4, (World.putObj_heap_other hne).trans q5⟩) s1
    refine ⟨wF, fun h => ⟨by simp, .inl ⟨r, _, rfl, run_takeDeferred k5, e1 h⟩⟩, e2, ⟨fun b hb => ⟨hb, ((e3.stay b hb).2).trans (s2.stay b hb).2⟩, fun _ _ h => ⟨h, rfl⟩, fun b hb => (e3.shape b (by rw [(putObj_os w r _).2.2.2]; exact hb)).trans (s2.shape b hb)⟩, fun c0 w0 hB hl => e4 c0 w0 hB (hl.nobody (by omega))⟩

/-- A FUNCTION: out of its body's condition. -/
theorem vcalls_of {f : FuncId} {fn : Func} {vc : VCode} {vr : List VR} {args : List TV} {H : List Ob} {R : TV → List Ob → Prop} (hf : P.funcs[f]? = some fn) (ht : fn.body.bind (trC P fn.ntmps) = some (er vc)) (hr : trR P fn.results.toList = some vr)
    (hn : args.length ≤ fn.ntmps) (h : vwp P vc (atEnd vr R) (argsE 0 args) H) : VCalls P f args H R := by
  obtain ⟨code, hb, ht⟩ := Option.bind_eq_some_iff.1 ht
  intro β F w vs hs hv
  obtain ⟨hl, hget⟩ := RepL.get hv
  refine (callsIn_wide (n := 0)).1 (callsIn_of_wp_marks hf hb trivial ?_)
  refine vwp_sound (ro := none) (nn := 0) (B := w.heap.size) (D := []) vc (.inl rfl) ht h hs ⟨⟨fun s => ?_, hs.glob⟩, by simp; omega, rfl⟩ Marks.nil (Nat.le_refl _) ?_
  · rw [get_argsE]
    simp only [Nat.zero_le, if_true, Nat.sub_zero]
    cases hx : args[s]? with
    | none => exact Rep.any
    | some x =>
      obtain ⟨v, hv1, hv2⟩ := hget s x hx
      have hs' : s < vs.length := (List.getElem?_eq_some_iff.1 hv1).1
      have : ((vs.toArray ++ Array.replicate (fn.ntmps - vs.toArray.size) undef).getD s undef) = v := by
        rw [Array.getD_eq_getD_getElem?, Array.getElem?_append_left (by simpa using hs')]
        simp [hv1]
      rw [this]; exact hv2
  · intro x e' H' β' F' w' a' D' k1 k2 k3 km k4
    have fin : res vr e' H' (fun x => R x H') → LeavesInM Fence.wide 0 P fn a'.tmps (fun e w' => ∃ v x β' H' F', e = .returned v ∧ R x H' ∧ Sim ⟨β', H', F'⟩ w' ∧ Later ⟨β, H, F⟩ w ⟨β', H', F'⟩ w' ∧ Rep ⟨β', H', F'⟩ w' x v) a'.defers .returning w' := fun h => by
      rw [k3.defers]
      obtain ⟨wF, e1, e2, e3, e4⟩ := Marks.shut (P := P) (FF := Fence.wide) (n := 0) (fn := fn) (tmps := a'.tmps) (R := fun e w' => ∃ v x β' H' F', e = .returned v ∧ R x H' ∧ Sim ⟨β', H', F'⟩ w' ∧ Later ⟨β, H, F⟩ w ⟨β', H', F'⟩ w' ∧ Rep ⟨β', H', F'⟩ w' x v) km k2
      obtain ⟨y, v, r1, r2, r3⟩ := res_run (fn := fn) (a := a') e2 ⟨fun s => Rep.mono e3 (k3.env.1 s), e2.glob⟩ hr h
      exact e1 ⟨v, r1, v, y, β', H', F', rfl, r3, e2, e4 _ _ (Nat.le_refl _) k4, r2⟩
    cases x with
    | nor => exact fin k1
    | ret => exact fin k1
    | exit i => exact k1.elim

/-- How a round's body is left. -/
def YPost (id n0 : Nat) (R : TV → List Ob → Prop) : VEx → Env → List Ob → Prop := fun x _ H => match H[id]? with
  | some (.lp .busy none fn N e ps ca cb) => (match x with
    | .nor => ∃ g, (n0 ≤ g ∧ id < g ∧ (H.length ≤ g ∨ belowH g ((H.set id (.lp .ready none fn N e ps ca cb)).take g) = true)) ∧ R (.val (.bool true)) ((H.set id (.lp .ready none fn N e ps ca cb)).take g)
    | .ret => R (.val (.bool false)) (H.set id (.lp .done (some .ret) fn N e ps ca cb))
    | .exit i => R (.val (.bool false)) (H.set id (.lp .done (some (.exit i)) fn N e ps ca cb)))
  | _ => False
/-- The slots at a round's beginning. -/
def bindE : List Nat → List TV → Env → Env
  | p :: ps, x :: xs, e => bindE ps xs ((p, x) :: e)
  | _, _, e => e
theorem bindE_ok {c : Ctx} {w : World} {N : Nat} : ∀ {ps : List Nat} {xs : List TV} {vs : List Value} {e : Env} {t : Array Value}, RepL c w xs vs → ps.all (· < N) = true → t.size = N → (∀ s, Rep c w (get e s) (t.getD s undef)) →
    ((ps.zip vs).foldl (fun t (p, v) => t.setIfInBounds p v) t).size = N ∧ ∀ s, Rep c w (get (bindE ps xs e) s) (((ps.zip vs).foldl (fun t (p, v) => t.setIfInBounds p v) t).getD s undef)
  | [], xs, vs, e, t, _, _, ht, h => by rw [List.zip_nil_left, List.foldl_nil]; simp only [bindE]; exact ⟨ht, h⟩
  | p :: ps, [], vs, e, t, hv, _, ht, h => by rw [RepL.nil] at hv; subst hv; rw [List.zip_nil_right, List.foldl_nil]; simp only [bindE]; exact ⟨ht, h⟩
  | p :: ps, x :: xs, vs, e, t, hv, hp, ht, h => by
    obtain ⟨u, us, rfl, h1, h2⟩ := RepL.cons.1 hv
    rw [List.all_cons, Bool.and_eq_true, decide_eq_true_eq] at hp
    rw [bindE, List.zip_cons_cons, List.foldl_cons]
    refine bindE_ok h2 hp.2 (by simp [ht]) fun s => ?_
    rw [get_cons]
    by_cases hs : p = s
    · subst hs
      have : (t.setIfInBounds p u).getD p undef = u := by simp [Array.getD, ht, hp.1]
      rw [if_pos rfl, this]; exact .inl h1
    · have : (t.setIfInBounds p u).getD s undef = t.getD s undef := by simp [Array.getElem?_setIfInBounds_ne hs]
      rw [if_neg hs, this]; exact h s

/-- A ROUND, out of the conditions of its code. -/
theorem vyield_of {id fn N : Nat} {e : Env} {ps : List Nat} {ca cb : Code} {as bd : VCode} {args : List TV} {H : List Ob} {R : TV → List Ob → Prop} (ho : H[id]? = some (.lp .ready none fn N e ps ca cb)) (hc : RfCode P N ps ca cb as bd) (hl : args.length = ps.length) (ha : noRf as = true) (hb : noRf bd = true)
    (h : vwp P as (fun x e1 H1 => x = .nor ∧ H1[id]? = some (.lp .ready none fn N e ps ca cb) ∧ vwp P bd (YPost id H.length R) e1 (H1.set id (.lp .busy none fn N e ps ca cb))) (bindE ps args e) H) : VYield P id 0 args H R := by
  intro β F w vs b o hs hv hbo n
  obtain ⟨b', r, r1, r2, r3, r4, r5, r6, r7, r8, r9, r10, -, -⟩ := hs.loopTurn (st' := .busy) (pe' := none) ho
  rw [hbo] at r1
  obtain ⟨rfl, rfl⟩ : b = b' ∧ o = 0 := by simpa using r1
  have hlv : vs.length = args.length := (RepL.get hv).1.symm
  have hy := run_yield (P := P) (args := vs.toArray) r2 (by rw [r7]; simp [hlv, hl])
  refine ⟨_, _, _, _, hy, ?_⟩
  rw [r8, r9, r7]
  refine roundIn_of_wpIn trivial ?_
  have hz : (ps.toArray.zip vs.toArray).foldl (fun tmps (t, a) => tmps.setIfInBounds t a) r.tmps = (ps.zip vs).foldl (fun t (p, v) => t.setIfInBounds p v) r.tmps := by simp
  rw [hz]
  obtain ⟨z1, z2⟩ := bindE_ok hv hc.p r6 r10
  refine vwp_sound (ro := some b) (nn := n) (B := 0) (D := []) as (.inr ha) hc.a h hs ⟨⟨z2, hs.glob⟩, z1, rfl⟩ Marks.nil (Nat.zero_le _) ?_
  rintro x e1 H1 β1 F1 w1 a1 D1 ⟨rfl, h1, h2⟩ s1 f1 m1 l1
  obtain ⟨b2, q, q1, q2, q3, q4, q5, q6, q7, q8, q9, q10, q11, q12⟩ := s1.loopTurn (st' := .busy) (pe' := none) h1
  have hlt : id < H.length := (List.getElem?_eq_some_iff.1 ho).1
  have hβ1 : β1 id 0 = some (b, 0) := ((l1.has id 0 ⟨_, ho, Nat.le_refl _⟩).2).trans hbo
  rw [hβ1] at q1
  obtain ⟨rfl, _⟩ : b = b2 ∧ True := by simpa using q1
  have hbr := run_beginRound (P := P) q2 q3
  have e0 : ({ q with state := .busy, pending := none } : Loop) = { q with state := .busy } := by rw [← q4]
  rw [e0] at q11 q12
  refine ⟨_, hbr, ?_⟩
  refine vwp_sound (ro := some b) (nn := n) (B := 0) (D := D1) bd (.inr hb) hc.b h2 q11 ⟨⟨fun s => Rep.mono (q12.mono s1) (f1.env.1 s), q11.glob⟩, f1.size, f1.defers⟩ (m1.later q12) (Nat.zero_le _) ?_
  intro x e2 H2 β2 F2 w2 a2 D2 k1 k2 k3 km k4
  have hlat := (l1.trans q12).trans k4
  have hβ2 : β2 id 0 = some (b, 0) := ((hlat.has id 0 ⟨_, ho, Nat.le_refl _⟩).2).trans hbo
  unfold YPost at k1
  split at k1
  · rename_i fn' N' e' ps' c1 c2 hob
    have fin : ∀ (pe : Option Code), ∃ r : Loop, w2.heap[b]? = some (.loop r) ∧ Sim ⟨β2, H2.set id (.lp (if pe.isNone then .ready else .done) pe fn' N' e' ps' c1 c2), F2⟩ (w2.putObj b (.loop { r with state := if pe.isNone then .ready else .done, pending := pe })) ∧
        Later ⟨β2, H2, F2⟩ w2 ⟨β2, H2.set id (.lp (if pe.isNone then .ready else .done) pe fn' N' e' ps' c1 c2), F2⟩ (w2.putObj b (.loop { r with state := if pe.isNone then .ready else .done, pending := pe })) := by
      intro pe
      obtain ⟨b3, r, t1, t2, _, _, _, _, _, _, _, _, t3, t4⟩ := k2.loopTurn (st' := if pe.isNone then .ready else .done) (pe' := pe) hob
      rw [hβ2] at t1
      obtain ⟨rfl, _⟩ : b = b3 ∧ True := by simpa using t1
      exact ⟨r, t2, t3, t4⟩
    cases x with
    | nor =>
      obtain ⟨g, ⟨g1, g2, g3⟩, hR⟩ := k1
      obtain ⟨r, t2, t3, t4⟩ := fin none
      refine ⟨_, _, run_endRound none t2, ?_⟩
      rcases g3 with g3 | g3
      · rw [List.take_of_length_le (by simpa using g3)] at hR
        exact ⟨_, _, _, _, _, rfl, hR, t3, hlat.trans t4, Rep.of_val⟩
      · refine ⟨_, .val (.bool true), β2, _, F2, rfl, hR, ?_, ?_, Rep.of_val⟩
        · exact Sim.cut (c := ⟨β2, _, F2⟩) t3 g3
        · exact Later.cut (c := ⟨β2, _, F2⟩) (hlat.trans t4) g1
    | ret =>
      obtain ⟨r, t2, t3, t4⟩ := fin (some .ret)
      exact ⟨_, _, run_endRound (some .ret) t2, _, _, _, _, _, rfl, k1, t3, hlat.trans t4, Rep.of_val⟩
    | exit i =>
      obtain ⟨r, t2, t3, t4⟩ := fin (some (.exit i))
      exact ⟨_, _, run_endRound (some (.exit i)) t2, _, _, _, _, _, rfl, k1, t3, hlat.trans t4, Rep.of_val⟩
  · exact k1.elim

/-- Nothing that was there has turned. -/
structure Stays (F : Nat → Prop) (w : World) (F' : Nat → Prop) (w' : World) : Prop where
  os : w'.os = w.os
  tape : w'.tape = w.tape
  output : w'.output = w.output
  size : w.heap.size ≤ w'.heap.size
  same : ∀ b, b < w.heap.size → w'.heap[b]? = w.heap[b]?
  keepF : ∀ b, F b → F' b
  oldF : ∀ b, b < w.heap.size → F' b → F b
  ltF : ∀ b, F' b → b < w'.heap.size

/-- A CALL THAT LEAVES NOTHING BEHIND but new memory that nobody changes any more. -/
def VPure (P : Program) (f : FuncId) (args : List TV) (R : TV → Prop) : Prop :=
  ∀ (β : Nat → Nat → Option (Nat × Nat)) (F : Nat → Prop) (w : World) (vs : List Value), ((∀ b, F b → b < w.heap.size) ∧ GlobOk F w) → RepL ⟨β, [], F⟩ w args vs →
    Calls P f vs.toArray w fun e w' => ∃ v x F', e = .returned v ∧ R x ∧ Rep ⟨β, [], F'⟩ w' x v ∧ Stays F w F' w'

theorem VPure.mono {f : FuncId} {args : List TV} {R R' : TV → Prop} (h : VPure P f args R) (hr : ∀ x, R x → R' x) : VPure P f args R' :=
  fun β F w vs hF hv => (h β F w vs hF hv).mono fun _ _ ⟨v, x, F', h1, h2, h3⟩ => ⟨v, x, F', h1, hr _ h2, h3⟩

theorem VCalls.toPure {f : FuncId} {args : List TV} {R : TV → Prop} (h : VCalls P f args [] fun x H' => match frz H' x with | some y => R y | none => False) : VPure P f args R := by
  intro β F w vs hF hv
  have hs : Sim ⟨β, [], F⟩ w := ⟨fun id o ho => by simp at ho, fun i j x y b o o' hx => by simp at hx, fun b hb => by obtain ⟨i, o, off, h1, _⟩ := hb; simp at h1, hF.1, hF.2⟩
  refine (h β F w vs hs hv).mono ?_
  rintro _ w' ⟨v, x, β', H', F', rfl, hR, hs', hl, hx⟩
  split at hR
  · rename_i y hy
    have hno : ∀ b, ¬ Ctx.own ⟨β, [], F⟩ b := fun b hb => by obtain ⟨i, o, off, h1, _⟩ := hb; simp at h1
    have hr := frz_rep hs' hy hx
    refine ⟨v, y, fun b => F' b ∨ Ctx.own ⟨β', H', F'⟩ b, rfl, hR, Rep.mono (Mono.toBare [] β) hr, ⟨hl.os, hl.tape, hl.output, hl.size, fun b hb => hl.same b hb (hno b), fun b hb => .inl (hl.keepF b hb), fun b hb hF' => ?_, fun b hF' => hF'.elim (hs'.lt b) hs'.own_lt⟩⟩
    rcases hF' with hF' | hF'
    · exact (hl.oldF b hb hF').resolve_right (hno b)
    · exact absurd (hl.oldOwn b hb hF') (hno b)
  · exact hR.elim

theorem Stays.later {β : Nat → Nat → Option (Nat × Nat)} {H : List Ob} {F F' : Nat → Prop} {w w' : World} (h : Stays F w F' w') : Later ⟨β, H, F⟩ w ⟨β, H, F'⟩ w' :=
  ⟨h.os, h.tape, h.output, h.size, fun id v ⟨o, h1, h2⟩ => ⟨⟨o, h1, h2⟩, rfl⟩, fun b hb => shape_of_block (h.same b hb), fun b hb _ => h.same b hb, h.keepF, fun b hb hF => .inl (h.oldF b hb hF), fun b hb ⟨i, o, off, h1, h2, h3⟩ => ⟨i, o, off, h1, h2, h3⟩⟩
theorem Stays.sim {β : Nat → Nat → Option (Nat × Nat)} {H : List Ob} {F F' : Nat → Prop} {w w' : World} (hs : Sim ⟨β, H, F⟩ w) (h : Stays F w F' w') : Sim ⟨β, H, F'⟩ w' := by
  have hm : Mono ⟨β, H, F⟩ w ⟨β, H, F'⟩ w' := ⟨fun b hb => ⟨h.keepF b hb, h.same b (hs.lt b hb)⟩, fun id v ⟨o, h1, h2⟩ => ⟨⟨o, h1, h2⟩, rfl⟩, fun b hb => shape_of_block (h.same b hb)⟩
  refine ⟨fun id o ho => ObIs.mono hm ⟨o, ho, Nat.le_refl _⟩ (fun hl b off hb => h.same b (hs.own_lt ⟨id, o, off, ho, hl, hb⟩)) (hs.ob id o ho), hs.inj, fun b hb hF => ?_, h.ltF, hs.glob.keep hm.stay⟩
  obtain ⟨i, o, off, h1, h2, h3⟩ := hb
  have ho : Ctx.own ⟨β, H, F⟩ b := ⟨i, o, off, h1, h2, h3⟩
  exact hs.apart b ho (h.oldF b (hs.own_lt ho) hF)

/-- Such a call, with nothing lent. -/
theorem VPure.calls {f : FuncId} {args : List TV} {R : TV → Prop} {H : List Ob} {K : TV → List Ob → Prop} (h : VPure P f args R) (hp : pureL args = true) (hk : ∀ x, R x → K x H) : VCalls P f args H K := by
  intro β F w vs hs hv
  refine (h β F w vs ⟨hs.lt, hs.glob⟩ (RepL.pure hp hv)).mono ?_
  rintro _ w' ⟨v, x, F', rfl, hR, hx, hst⟩
  exact ⟨v, x, β, H, F', rfl, hk x hR, hst.sim hs, hst.later, Rep.mono (Mono.toBare H β) hx⟩

/-- Such a call, to which objects are lent: it yields no memory. -/
theorem VPure.lends {f : FuncId} {args args' : List TV} {R : TV → Prop} {H : List Ob} {K : TV → List Ob → Prop} (h : VPure P f args' R) (hp : frzL H args = some args') (hk : ∀ x, R x → scal x = true ∧ K x H) : VCalls P f args H K := by
  intro β F w vs hs hv
  refine (h β (fun b => F b ∨ Ctx.own ⟨β, H, F⟩ b) w vs ⟨fun b hb => hb.elim (hs.lt b) hs.own_lt, hs.glob.keep fun b hb => ⟨.inl hb, rfl⟩⟩ (frzL_rep hs hp hv)).mono ?_
  rintro _ w' ⟨v, x, F', rfl, hR, hx, hst⟩
  obtain ⟨hsc, hK⟩ := hk x hR
  have hst' : Stays F w F w' := ⟨hst.os, hst.tape, hst.output, hst.size, hst.same, fun _ h => h, fun _ _ h => h, fun b hb => Nat.lt_of_lt_of_le (hs.lt b hb) hst.size⟩
  exact ⟨v, x, β, H, F, rfl, hK, hst'.sim hs, hst'.later, scal_rep hsc hx⟩

/-! Calls whose results are new memory. -/
theorem Mono.ofF {β β' : Nat → Nat → Option (Nat × Nat)} {H : List Ob} {F F' : Nat → Prop} {w : World} (h : ∀ b, F b → F' b) : Mono ⟨β, [], F⟩ w ⟨β', H, F'⟩ w :=
  ⟨fun b hb => ⟨h b hb, rfl⟩, fun id v h => by obtain ⟨o, h, _⟩ := h; simp at h, fun _ _ => rfl⟩
mutual
/-- The reading of a result, where all memory in it is one's own, its elements without memory. -/
def frs (H : List Ob) : TV → Option TV
  | .val v => some (.val v)
  | .any => some .any
  | .os k id ver p off n cp => match H[id]? with
    | some (.obj v x) => if v = ver then (match elemsAt p k off n x with
      | some cs => if scalL cs then some (.sl k cs) else none
      | none => none) else none
    | _ => none
  | .agg cs => (frsL H cs).map .agg
  | .arr n k cs => if scalL cs then some (.arr n k cs) else none
  | .tup cs => (frsL H cs).map .tup
  | .ifc t x => (frs H x).map (.ifc t)
  | _ => none
def frsL (H : List Ob) : List TV → Option (List TV)
  | [] => some []
  | x :: xs => match frs H x, frsL H xs with
    | some x, some xs => some (x :: xs)
    | _, _ => none
end

/-- Only one's own blocks. -/
def Ctx.mine (c : Ctx) : Ctx := ⟨c.β, [], c.own⟩

theorem elemsAt_nilcs {p : List (Nat × Nat)} {k off : Nat} {x : TV} {cs : List TV} (h : elemsAt p k off 0 x = some cs) : cs = [] := by
  unfold elemsAt at h
  split at h
  · split at h
    · cases h; simp
    · cases h
  · cases h

mutual
theorem frs_rep {c : Ctx} {w : World} (hs : Sim c w) : ∀ {x x' : TV} {us : List Value}, frs c.H x = some x' → RepC c w x us → RepC c.mine w x' us
  | .val y, x', us, hf, hr => by simp only [frs, Option.some.injEq] at hf; subst hf; rw [RepC] at hr ⊢; exact hr
  | .any, x', us, hf, hr => by simp only [frs, Option.some.injEq] at hf; subst hf; rw [RepC] at hr ⊢; exact hr
  | .mp _ _, x', us, hf, hr => by simp [frs] at hf
  | .yl _ _, x', us, hf, hr => by simp [frs] at hf
  | .sl k cs, x', us, hf, hr => by simp [frs] at hf
  | .fp x, x', us, hf, hr => by simp [frs] at hf
  | .op id ver p, x', us, hf, hr => by simp [frs] at hf
  | .fn f a b, x', us, hf, hr => by simp [frs] at hf
  | .os k id ver p off n cp, x', us, hf, hr => by
    rw [RepC] at hr
    obtain ⟨hr1, hr2⟩ := hr
    rw [frs] at hf
    split at hf
    · rename_i ver' x hid
      split at hf
      · rename_i e; subst e
        split at hf
        · rename_i cs hcs
          split at hf
          · rename_i hsc
            cases hf
            rcases hr2 with ⟨rfl, a0, hr2, _⟩ | ⟨b0, o0, cap, t0, m0, hr2, hr3, hr4, hr5, hr6, hr7⟩
            · have := elemsAt_nilcs hcs
              subst this
              rw [RepC]
              exact ⟨by simp, .inl ⟨rfl, a0, 0, hr2, by omega⟩⟩
            rcases hs.ob id _ hid with ⟨h0, _⟩ | ⟨b, off', pre, vs, post, t, fr, h0, h1, h2, h3, h4⟩
            · rw [h0] at hr2; cases hr2
            rw [h0] at hr2
            obtain ⟨rfl, rfl⟩ : b = b0 ∧ off' = o0 := by simpa using hr2
            obtain ⟨a, m, q, rfl, k1, k2, k3, k4⟩ := elemsAt_spec h4 hcs
            rw [RepC]
            refine ⟨k3, .inr ⟨b, off' + span p + off * k, cap, m, by rw [k4]; exact hr3, by omega, hr5, ⟨id, _, off', hid, rfl, h0⟩, scalL_repCs hsc k2, ?_⟩⟩
            have e : off' + span p + off * k = pre.length + a.length := by rw [h3, k1]; omega
            rw [e]; exact cells_mid h1
          · cases hf
        · cases hf
      · cases hf
    · cases hf
  | .agg cs, x', us, hf, hr => by
    simp only [frs, Option.map_eq_some_iff] at hf
    obtain ⟨ds, hds, rfl⟩ := hf
    rw [RepC] at hr ⊢
    exact frsL_reps hs hds hr
  | .arr n k cs, x', us, hf, hr => by
    rw [frs] at hf
    split at hf
    · rename_i hsc; cases hf; rw [RepC] at hr ⊢; exact ⟨hr.1, hr.2.1, scalL_repCs hsc hr.2.2⟩
    · cases hf
  | .tup cs, x', us, hf, hr => by rw [RepC] at hr; exact hr.elim
  | .ifc t x, x', us, hf, hr => by
    simp only [frs, Option.map_eq_some_iff] at hf
    obtain ⟨y, hy, rfl⟩ := hf
    rw [RepC] at hr ⊢
    obtain ⟨u, h1, vs, h2, h3⟩ := hr
    exact ⟨u, h1, vs, frs_rep hs hy h2, by rw [h3]; exact frs_mkV hy vs⟩
theorem frsL_reps {c : Ctx} {w : World} (hs : Sim c w) : ∀ {xs xs' : List TV} {us : List Value}, frsL c.H xs = some xs' → RepCs c w xs us → RepCs c.mine w xs' us
  | [], xs', us, hf, hr => by simp only [frsL, Option.some.injEq] at hf; subst hf; rw [RepCs] at hr ⊢; exact hr
  | x :: xs, xs', us, hf, hr => by
    rw [frsL] at hf
    split at hf
    · rename_i y ys hy hys
      cases hf
      rw [RepCs] at hr ⊢
      obtain ⟨u, us, h1, h2, h3⟩ := hr
      exact ⟨u, us, h1, frs_rep hs hy h2, frsL_reps hs hys h3⟩
    · cases hf
theorem frs_mkV {H : List Ob} : ∀ {x x' : TV} (hf : frs H x = some x') (us : List Value), mkV x us = mkV x' us
  | .val y, x', hf, us => by simp only [frs, Option.some.injEq] at hf; subst hf; rfl
  | .any, x', hf, us => by simp only [frs, Option.some.injEq] at hf; subst hf; rfl
  | .mp _ _, x', hf, us => by simp [frs] at hf
  | .yl _ _, x', hf, us => by simp [frs] at hf
  | .sl k cs, x', hf, us => by simp [frs] at hf
  | .fp x, x', hf, us => by simp [frs] at hf
  | .op id ver p, x', hf, us => by simp [frs] at hf
  | .fn f a b, x', hf, us => by simp [frs] at hf
  | .os k id ver p off n cp, x', hf, us => by
    rw [frs] at hf
    split at hf
    · split at hf
      · split at hf
        · split at hf
          · cases hf; rfl
          · cases hf
        · cases hf
      · cases hf
    · cases hf
  | .agg cs, x', hf, us => by
    simp only [frs, Option.map_eq_some_iff] at hf
    obtain ⟨ds, hds, rfl⟩ := hf; rfl
  | .arr n k cs, x', hf, us => by
    rw [frs] at hf
    split at hf
    · cases hf; rfl
    · cases hf
  | .tup cs, x', hf, us => by
    simp only [frs, Option.map_eq_some_iff] at hf
    obtain ⟨ds, hds, rfl⟩ := hf; rfl
  | .ifc t x, x', hf, us => by
    simp only [frs, Option.map_eq_some_iff] at hf
    obtain ⟨y, hy, rfl⟩ := hf; rfl
end
theorem frsL_rep {c : Ctx} {w : World} (hs : Sim c w) : ∀ {xs xs' : List TV} {vs : List Value}, frsL c.H xs = some xs' → RepL c w xs vs → RepL c.mine w xs' vs
  | [], xs', vs, hf, hr => by simp only [frsL, Option.some.injEq] at hf; subst hf; rw [RepL] at hr ⊢; exact hr
  | x :: xs, xs', vs, hf, hr => by
    rw [frsL] at hf
    split at hf
    · rename_i y ys hy hys
      cases hf
      rw [RepL] at hr ⊢
      obtain ⟨u, us, h1, h2, h3⟩ := hr
      refine ⟨u, us, h1, ?_, frsL_rep hs hys h3⟩
      rcases h2 with rfl | rfl | ⟨as, h2, h4⟩
      · simp only [frs, Option.some.injEq] at hy; subst hy; exact .inl rfl
      · simp only [frs, Option.some.injEq] at hy; subst hy; exact .inr (.inl rfl)
      · exact .inr (.inr ⟨as, frs_rep hs hy h2, by rw [h4]; exact frs_mkV hy as⟩)
    · cases hf
theorem frs_rep1 {c : Ctx} {w : World} (hs : Sim c w) {x x' : TV} {v : Value} (hf : frs c.H x = some x') (hr : Rep c w x v) : Rep c.mine w x' v := by
  rcases hr with (h | h | ⟨us, h, h'⟩) | ⟨xs, vs, rfl, h2, h3⟩
  · subst h; simp only [frs, Option.some.injEq] at hf; subst hf; exact Rep.any
  · subst h; simp only [frs, Option.some.injEq] at hf; subst hf; exact Rep.of_val
  · exact .inl (.inr (.inr ⟨us, frs_rep hs hf h, by rw [h']; exact frs_mkV hf us⟩))
  · simp only [frs, Option.map_eq_some_iff] at hf
    obtain ⟨ds, hds, rfl⟩ := hf
    exact .inr ⟨ds, vs, rfl, h2, frsL_rep hs hds h3⟩

/-- A CALL THAT LEAVES NOTHING BEHIND, AND YIELDS NEW MEMORY ALONE. -/
def VFresh (P : Program) (f : FuncId) (args : List TV) (R : TV → Prop) : Prop :=
  ∀ (β : Nat → Nat → Option (Nat × Nat)) (F : Nat → Prop) (w : World) (vs : List Value), ((∀ b, F b → b < w.heap.size) ∧ GlobOk F w) → RepL ⟨β, [], F⟩ w args vs →
    Calls P f vs.toArray w fun e w' => ∃ v x F', e = .returned v ∧ R x ∧ Rep ⟨β, [], fun b => F' b ∧ w.heap.size ≤ b⟩ w' x v ∧ Stays F w F' w'

theorem VFresh.mono {f : FuncId} {args : List TV} {R R' : TV → Prop} (h : VFresh P f args R) (hr : ∀ x, R x → R' x) : VFresh P f args R' :=
  fun β F w vs hF hv => (h β F w vs hF hv).mono fun _ _ ⟨v, x, F', h1, h2, h3⟩ => ⟨v, x, F', h1, hr _ h2, h3⟩
theorem VFresh.pure {f : FuncId} {args : List TV} {R : TV → Prop} (h : VFresh P f args R) : VPure P f args R :=
  fun β F w vs hF hv => (h β F w vs hF hv).mono fun _ _ ⟨v, x, F', h1, h2, h3, h4⟩ => ⟨v, x, F', h1, h2, Rep.mono (Mono.ofF (F := fun b => F' b ∧ w.heap.size ≤ b) (F' := F') fun b hb => hb.1) h3, h4⟩

theorem VCalls.toFresh {f : FuncId} {args : List TV} {R : TV → Prop} (h : VCalls P f args [] fun x H' => match frs H' x with | some y => R y | none => False) : VFresh P f args R := by
  intro β F w vs hF hv
  have hs : Sim ⟨β, [], F⟩ w := ⟨fun id o ho => by simp at ho, fun i j x y b o o' hx => by simp at hx, fun b hb => by obtain ⟨i, o, off, h1, _⟩ := hb; simp at h1, hF.1, hF.2⟩
  refine (h β F w vs hs hv).mono ?_
  rintro _ w' ⟨v, x, β', H', F', rfl, hR, hs', hl, hx⟩
  split at hR
  · rename_i y hy
    have hno : ∀ b, ¬ Ctx.own ⟨β, [], F⟩ b := fun b hb => by obtain ⟨i, o, off, h1, _⟩ := hb; simp at h1
    have hr := frs_rep1 hs' hy hx
    have hnew : ∀ b, Ctx.own ⟨β', H', F'⟩ b → w.heap.size ≤ b := fun b hb => by
      rcases Nat.lt_or_ge b w.heap.size with h1 | h1
      · exact absurd (hl.oldOwn b h1 hb) (hno b)
      · exact h1
    refine ⟨v, y, fun b => F b ∨ Ctx.own ⟨β', H', F'⟩ b, rfl, hR, ?_, ⟨hl.os, hl.tape, hl.output, hl.size, fun b hb => hl.same b hb (hno b), fun b hb => .inl hb, fun b hb hF' => hF'.elim id fun h => ?_, fun b hF' => hF'.elim (fun h => Nat.lt_of_lt_of_le (hF.1 b h) hl.size) hs'.own_lt⟩⟩
    · exact Rep.mono (Mono.ofF (F := Ctx.own ⟨β', H', F'⟩) (F' := fun b => (F b ∨ Ctx.own ⟨β', H', F'⟩ b) ∧ w.heap.size ≤ b) fun b hb => ⟨.inr hb, hnew b hb⟩) hr
    · have := hnew b h; omega
  · exact hR.elim

/-- Such a call, to which objects are lent. -/
theorem VFresh.lends {f : FuncId} {args args' : List TV} {R : TV → Prop} {H : List Ob} {K : TV → List Ob → Prop} (h : VFresh P f args' R) (hp : frzL H args = some args') (hk : ∀ x, R x → K x H) : VCalls P f args H K := by
  intro β F w vs hs hv
  refine (h β (fun b => F b ∨ Ctx.own ⟨β, H, F⟩ b) w vs ⟨fun b hb => hb.elim (hs.lt b) hs.own_lt, hs.glob.keep fun b hb => ⟨.inl hb, rfl⟩⟩ (frzL_rep hs hp hv)).mono ?_
  rintro _ w' ⟨v, x, F', rfl, hR, hx, hst⟩
  have hst' : Stays F w (fun b => F b ∨ (F' b ∧ w.heap.size ≤ b)) w' := ⟨hst.os, hst.tape, hst.output, hst.size, hst.same, fun _ h => .inl h, fun b hb h => h.elim id fun h => by omega, fun b hb => hb.elim (fun h => Nat.lt_of_lt_of_le (hs.lt b h) hst.size) fun h => hst.ltF b h.1⟩
  refine ⟨v, x, β, H, _, rfl, hk x hR, hst'.sim hs, hst'.later, Rep.mono (Mono.ofF (F := fun b => F' b ∧ w.heap.size ≤ b) (F' := fun b => F b ∨ (F' b ∧ w.heap.size ≤ b)) fun b hb => .inr hb) hx⟩
end
end Go.Proofs.Ytknphdcjopaaoaa
