/- Lists of operations, in the order of the text. No program in sight. -/
import Derived.Test.YtknphdcjopaaoaaVmK
import Derived.Deep.LoopGhost
import Derived.Scope
namespace Go.Proofs.Ytknphdcjopaaoaa
open Go.RowKit
set_option linter.unusedVariables false
set_option autoImplicit false

inductive VOp where
  | p (o : POp)
  | s (o : SOp)
  deriving Inhabited

structure VO where
  dst : Option Nat
  op : VOp
  g : Option (Nat × Bool)
  deriving Inhabited

def trV (P : Program) (op : Op) : Option VOp := match trP P op with
  | some o => some (.p o)
  | none => (trS P op).map .s
def trG (ops : List Oper) : Option (Nat × Bool) → Option (Option (Nat × Bool))
  | none => some none
  | some (j, b) => match (ops[j]?).bind (·.dst) with
    | some s => some (some (s, b))
    | none => none
def trL (P : Program) (N : Nat) (all : List Oper) : List Oper → Option (List VO)
  | [] => some []
  | o :: os => match trV P o.op, trG all o.guard, trL P N all os with
    | some v, some g, some r => if o.dst.all (· < N) then some (⟨o.dst, v, g⟩ :: r) else none
    | _, _, _ => none
def putE (e : Env) : Option Nat → TV → Env
  | none, _ => e
  | some d, x => (d, x) :: e
def forget (kp : List Nat) (e : Env) : Env := kp.map fun s => (s, get e s)

def vop (P : Program) (o : VOp) (e : Env) (H : List Ob) (K : TV → List Ob → Prop) : Prop := match o with
  | .p o => pop o e H fun x => K x H
  | .s o => sop P o e H K

def isB : Value → Option Bool
  | .bool b => some b
  | _ => none
/-- What a guard's slot says. -/
def knowB (e : Env) (s : Nat) (K : Env → Option Bool → Prop) : Prop := match get e s with
  | .val v => K e (isB v)
  | .any => (∀ t, K ((s, .val (.bool t)) :: e) (some t)) ∧ ∀ v, isB v = none → K ((s, .val v) :: e) none
  | _ => False

def vops (P : Program) : List VO → (Env → List Ob → Prop) → Env → List Ob → Prop
  | [], K, e, H => K e H
  | o :: r, K, e, H => match o.g with
    | none => vop P o.op e H fun x H => vops P r K (putE e o.dst x) H
    | some (s, b) => knowB e s fun e q => match q with
      | some t => if t = b then vop P o.op e H fun x H => vops P r K (putE e o.dst x) H else vops P r K (putE e o.dst (.val undef)) H
      | none => vops P r K (putE e o.dst (.val undef)) H

section sound
variable {P : Program}

/-- The frame as it stands. -/
structure Fr (N : Nat) (D : List Deferred) (c : Ctx) (w : World) (e : Env) (a : Act) : Prop where
  env : EnvOk c w e a
  size : a.tmps.size = N
  defers : a.defers = D

theorem get_cons (k s : Nat) (x : TV) (e : Env) : get ((k, x) :: e) s = if k = s then x else get e s := rfl
theorem get_forget : ∀ (kp : List Nat) (e : Env) (s : Nat), get (forget kp e) s = if s ∈ kp then get e s else .any
  | [], e, s => by simp [forget, get]
  | k :: kp, e, s => by
    have := get_forget kp e s
    simp only [forget, List.map_cons] at this ⊢
    rw [get_cons, this]
    by_cases h : k = s
    · subst h; simp
    · rw [if_neg h]
      have h' : ¬ s = k := fun e => h e.symm
      simp only [List.mem_cons, h', false_or]
theorem Fr.forget {N : Nat} {D : List Deferred} {c : Ctx} {w : World} {e : Env} {a : Act} (h : Fr N D c w e a) (kp : List Nat) : Fr N D c w (forget kp e) a :=
  ⟨⟨fun s => by rw [get_forget]; split
                · exact h.env.1 s
                · exact Rep.any, h.env.2⟩, h.size, h.defers⟩
theorem Fr.put {N : Nat} {D : List Deferred} {c c' : Ctx} {w w' : World} {e : Env} {a : Act} (h : Fr N D c w e a) (hm : Mono c w c' w') {dst : Option Nat} (hd : dst.all (· < N) = true) {x : TV} {v : Value} (hx : Rep c' w' x v) : Fr N D c' w' (putE e dst x) (a.put dst v) := by
  cases dst with
  | none => exact ⟨⟨fun s => Rep.mono hm (h.env.1 s), h.env.2.keep hm.stay⟩, h.size, h.defers⟩
  | some d =>
    have hd' : d < N := by simpa using hd
    refine ⟨⟨fun s => ?_, h.env.2.keep hm.stay⟩, by simp [Act.put, h.size], h.defers⟩
    show Rep c' w' (get ((d, x) :: e) s) ((a.tmps.setIfInBounds d v).getD s undef)
    rw [get_cons]
    by_cases hs : d = s
    · subst hs
      rw [if_pos rfl]
      have : (a.tmps.setIfInBounds d v).getD d undef = v := by
        simp [Array.getD, h.size, hd']
      rw [this]; exact hx
    · rw [if_neg hs]
      have : (a.tmps.setIfInBounds d v).getD s undef = a.tmps.getD s undef := by
        simp [Array.getElem?_setIfInBounds_ne hs]
      rw [this]; exact Rep.mono hm (h.env.1 s)

theorem vop_sound {β : Nat → Nat → Option (Nat × Nat)} {H : List Ob} {F : Nat → Prop} {w : World} {a : Act} {e : Env} {K : TV → List Ob → Prop} (hs : Sim ⟨β, H, F⟩ w) (he : EnvOk ⟨β, H, F⟩ w e a) {op : Op} {vo : VOp} (ht : trV P op = some vo) (h : vop P vo e H K) : Does P β H F w a K op := by
  unfold trV at ht
  split at ht
  · rename_i po hp; cases ht
    exact Yields.does hs fun ty => pop_sound hs he hp h
  · obtain ⟨so, hso, rfl⟩ := Option.map_eq_some_iff.1 ht
    exact sop_sound hs he hso h

theorem yielded_is {ops : Array Oper} {a : Act} {j s : Nat} (hj : (ops[j]?).bind (·.dst) = some s) : yielded ops a.tmps j = isB (a.tmps.getD s undef) := by
  unfold yielded
  rw [hj]
  simp only [Option.bind_some]
  rw [Array.getD_eq_getD_getElem?]
  cases h : a.tmps[s]? with
  | none => rfl
  | some v => cases v <;> rfl
theorem yielded_of {ops : Array Oper} {c : Ctx} {w : World} {e : Env} {a : Act} (he : EnvOk c w e a) {j s : Nat} {t : Bool} (hj : (ops[j]?).bind (·.dst) = some s) (hg : get e s = .val (.bool t)) : yielded ops a.tmps j = some t := by
  have := he.1 s
  rw [hg, Rep.val] at this
  rw [yielded_is hj, this]; rfl
theorem Fr.know {N : Nat} {D : List Deferred} {c : Ctx} {w : World} {e : Env} {a : Act} (h : Fr N D c w e a) (s : Nat) : Fr N D c w ((s, .val (a.tmps.getD s undef)) :: e) a :=
  ⟨⟨fun s' => by
    rw [get_cons]
    split
    · rename_i hs; subst hs; exact Rep.of_val
    · exact h.env.1 s', h.env.2⟩, h.size, h.defers⟩
theorem knowB_sound {N : Nat} {D : List Deferred} {c : Ctx} {w : World} {e : Env} {a : Act} {s : Nat} {K : Env → Option Bool → Prop} (hf : Fr N D c w e a) (h : knowB e s K) : ∃ e', Fr N D c w e' a ∧ K e' (isB (a.tmps.getD s undef)) := by
  unfold knowB at h
  split at h
  · rename_i v hv
    have := hf.env.1 s
    rw [hv, Rep.val] at this
    exact ⟨e, hf, by rw [this]; exact h⟩
  · refine ⟨_, hf.know s, ?_⟩
    cases hb : isB (a.tmps.getD s undef) with
    | none => exact h.2 _ hb
    | some t =>
      have : a.tmps.getD s undef = .bool t := by
        generalize a.tmps.getD s undef = v at hb
        cases v <;> simp [isB] at hb
        rw [hb]
      rw [this]; exact h.1 t
  · exact h.elim

theorem trV_nd {op : Op} {v : VOp} (h : trV P op = some v) : ∀ c, op ≠ .defer c := by
  intro c hc; subst hc; simp [trV, trP, trS] at h

theorem vops_sound {N : Nat} {D : List Deferred} {ro : Option Nat} {nn : Nat} {all : Array Oper} : ∀ {os : List Oper} {l : List VO}, trL P N all.toList os = some l → ∀ {K : Env → List Ob → Prop} {e : Env} {H : List Ob} {β : Nat → Nat → Option (Nat × Nat)} {F : Nat → Prop} {w : World} {a : Act} {QQ : Exit → Act → World → Prop},
    vops P l K e H → Sim ⟨β, H, F⟩ w → Fr N D ⟨β, H, F⟩ w e a →
    (∀ e' H' β' F' w' a', K e' H' → Sim ⟨β', H', F'⟩ w' → Fr N D ⟨β', H', F'⟩ w' e' a' → Later ⟨β, H, F⟩ w ⟨β', H', F'⟩ w' → QQ .normal a' w') → wpListIn (fz ro) nn P all QQ os a w
  | [], l, ht, K, e, H, β, F, w, a, QQ, h, hs, hf, hk => by
    simp only [trL, Option.some.injEq] at ht; subst ht
    exact hk e H β F w a h hs hf (Later.refl _ _)
  | o :: os, l, ht, K, e, H, β, F, w, a, QQ, h, hs, hf, hk => by
    rw [trL] at ht
    split at ht
    · rename_i v g r hv hg hr
      split at ht
      · rename_i hd
        cases ht
        have go : vop P v e H (fun x H => vops P r K (putE e o.dst x) H) → o.wpIn (fz ro) nn P a w (wpListIn (fz ro) nn P all QQ os) QQ := fun h => by
          refine vop_sound hs hf.env hv h o _ QQ rfl (trV_nd hv) ?_ ro nn
          intro x H' β' F' w' u hK hs' hl hx
          have hm := hl.mono hs
          exact vops_sound hr hK hs' (hf.put hm hd hx) fun e' H'' β'' F'' w'' a' k1 k2 k3 k4 => hk _ _ _ _ _ _ k1 k2 k3 (hl.trans k4)
        rw [wpListIn]
        have hgd := hg
        rw [vops] at h
        cases hog : o.guard with
        | none =>
          rw [hog] at hg
          simp only [trG, Option.some.injEq] at hg; subst hg
          have : Region.wanted o (yielded all a.tmps) = true := by simp [Region.wanted, hog]
          rw [if_pos this]
          exact go h
        | some jb =>
          obtain ⟨j, b⟩ := jb
          rw [hog] at hg
          simp only [trG] at hg
          split at hg
          · rename_i s hj
            cases hg
            simp only at h
            obtain ⟨e', hf', h⟩ := knowB_sound hf h
            have hy : yielded all a.tmps j = isB (a.tmps.getD s undef) := yielded_is (by simpa using hj)
            have skip : vops P r K (putE e' o.dst (.val undef)) H → wpListIn (fz ro) nn P all QQ os (a.put o.dst undef) w := fun h => vops_sound hr h hs (hf'.put ⟨fun b hb => ⟨hb, rfl⟩, fun _ _ h => ⟨h, rfl⟩, fun _ _ => rfl⟩ hd Rep.of_val) hk
            have go' : vop P v e' H (fun x H => vops P r K (putE e' o.dst x) H) → o.wpIn (fz ro) nn P a w (wpListIn (fz ro) nn P all QQ os) QQ := fun h => by
              refine vop_sound hs hf'.env hv h o _ QQ rfl (trV_nd hv) ?_ ro nn
              intro x H' β' F' w' u hK hs' hl hx
              have hm := hl.mono hs
              exact vops_sound hr hK hs' (hf'.put hm hd hx) fun e' H'' β'' F'' w'' a' k1 k2 k3 k4 => hk _ _ _ _ _ _ k1 k2 k3 (hl.trans k4)
            cases hq : isB (a.tmps.getD s undef) with
            | some t =>
              rw [hq] at h hy
              by_cases htb : t = b
              · subst htb
                have : Region.wanted o (yielded all a.tmps) = true := by simp [Region.wanted, hog, hy]
                rw [if_pos this]
                simp only [if_true] at h
                exact go' h
              · have : ¬ (Region.wanted o (yielded all a.tmps) = true) := by simp [Region.wanted, hog, hy, htb]
                rw [if_neg this]
                simp only [htb, if_false] at h
                exact ⟨fun _ _ => trivial, skip h⟩
            | none =>
              rw [hq] at h hy
              have : ¬ (Region.wanted o (yielded all a.tmps) = true) := by simp [Region.wanted, hog, hy]
              rw [if_neg this]
              exact ⟨fun _ _ => trivial, skip h⟩
          · cases hg
      · cases ht
    · cases ht

end sound
end Go.Proofs.Ytknphdcjopaaoaa
