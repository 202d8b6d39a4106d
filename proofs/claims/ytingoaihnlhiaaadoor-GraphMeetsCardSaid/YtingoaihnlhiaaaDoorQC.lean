/- What the proof of GraphMeetsCard stands on (texts merged; names shortened by a program): part 3. -/
import Derived.Test.YtingoaihnlhiaaaDoorQB
import Derived.Deep.LoopGhost
import Derived.Scope
import Derived.Orders
import Derived.OrdersIn
import Derived.RangeFuncIn
import Derived.RangeFuncRecord
import Derived.RangeFuncLeaves
import Derived.Sort.LoopGhostIn
namespace Go.Proofs.YtingoaihnlhiaaaDoor
open Go.RowKit
variable [Bc]
set_option linter.unusedSectionVars false
set_option linter.unusedSimpArgs false
set_option linter.unusedVariables false
set_option autoImplicit false

inductive VOp where
 | p (o : POp)
 | s (o : SOp)
 deriving Inhabited

structure VO where
 dst : Option Nat
 op : VOp
 g : Option (Nat × Bool)
 deriving Inhabited

def trV (bz : Bool) (P : Program) (op : Op) : Option VOp := match trP P op with
 | some o => some (.p o)
 | none => (trS P op).map fun o => match bz, o with
  | true, .bslice k n z ps => .p (.bsl k n z ps)
  | _, o => .s o
def trG (ops : List Oper) : Option (Nat × Bool) → Option (Option (Nat × Bool))
 | none => some none
 | some (j, b) => match (ops[j]?).bind (·.dst) with
  | some s => some (some (s, b))
  | none => none
def trL (bz : Bool) (P : Program) (N : Nat) (all : List Oper) : List Oper → Option (List VO)
 | [] => some []
 | o :: os => match trV bz P o.op, trG all o.guard, trL bz P N all os with
  | some v, some g, some r => if o.dst.all (· < N) then some (⟨o.dst, v, g⟩ :: r) else none
  | _, _, _ => none
def Zf (e : Env) : Option Nat → TV → Env
 | none, _ => e
 | some d, x => (d, x) :: e
def forget (kp : List Nat) (e : Env) : Env := kp.map fun s => (s, get e s)

def vop (P : Program) (o : VOp) (e : Env) (H : List Ob) (K : TV → List Ob → Prop) : Prop := match o with
 | .p o => pop o e H fun x => K x H
 | .s o => sop P o e H K

def isB : Value → Option Bool
 | .bool b => some b
 | _ => none
/-- What a guard's slot says. -/
def Aab (e : Env) (s : Nat) (K : Env → Option Bool → Prop) : Prop := match get e s with
 | .val v => K e (isB v)
 | .any => (∀ t, K ((s, .val (.bool t)) :: e) (some t)) ∧ ∀ v, isB v = none → K ((s, .val v) :: e) none
 | _ => False

def TD (W : VOp → Env → List Ob → (TV → List Ob → Prop) → Prop) : List VO → (Env → List Ob → Prop) → Env → List Ob → Prop
 | [], K, e, H => K e H
 | o :: r, K, e, H => match o.g with
  | none => W o.op e H fun x H => TD W r K (Zf e o.dst x) H
  | some (s, b) => Aab e s fun e q => match q with
   | some t => if t = b then W o.op e H fun x H => TD W r K (Zf e o.dst x) H else TD W r K (Zf e o.dst (.val undef)) H
   | none => TD W r K (Zf e o.dst (.val undef)) H

def YS (P : Program) (l : List VO) (K : Env → List Ob → Prop) (e : Env) (H : List Ob) : Prop := TD (vop P) l K e H
/-- Operations that may end in a panic: what holds then is KP. -/
def pvop (P : Program) (KP : Value → List Ob → Prop) (o : VOp) (e : Env) (H : List Ob) (K : TV → List Ob → Prop) : Prop := match o with
 | .s (.call f xs) => (∀ x ∈ xs, BP (x.ev e) = false) ∧ Vu P f (xs.map (·.ev e)) H K KP
 | .s (.pan x) => (match x.ev e with
  | .val (.iface t v) => KP (.iface t v) H
  | .ifc t (.val v) => KP (.iface t v) H
  | _ => False)
 | o => vop P o e H K
def Us (P : Program) (KP : Value → List Ob → Prop) (l : List VO) (K : Env → List Ob → Prop) (e : Env) (H : List Ob) : Prop := TD (pvop P KP) l K e H

section sound
variable {P : Program} {bz : Bool}

/-- The frame aS it stands. -/
structure Fr (N : Nat) (D : List Deferred) (c : Ctx) (w : World) (e : Env) (a : Act) : Prop where
 env : A8 c w e a
 size : a.tmps.size = N
 defers : a.defers = D

theorem BK (k s : Nat) (x : TV) (e : Env) : get ((k, x) :: e) s = if k = s then x else get e s := rfl
theorem EJ : ∀ (kp : List Nat) (e : Env) (s : Nat), get (forget kp e) s = if s ∈ kp then get e s else .any
 | [], e, s => by simp [forget, get]
 | k :: kp, e, s => by
  have := EJ kp e s
  simp only [forget, List.map_cons] at this ⊢
  rw [BK, this]
  by_cases h : k = s
  ·subst h; simp
  ·rw [if_neg h]
   have h' : ¬ s = k := fun e => h e.symm
   simp only [List.mem_cons, h', false_or]
theorem Fr.forget {N : Nat} {D : List Deferred} {c : Ctx} {w : World} {e : Env} {a : Act} (h : Fr N D c w e a) (kp : List Nat) : Fr N D c w (forget kp e) a :=
 ⟨⟨fun s => by
  rw [EJ]; split
  ·exact h.env.1 s
  ·exact Rep.any, h.env.2⟩, h.size, h.defers⟩
theorem Fr.put {N : Nat} {D : List Deferred} {c c' : Ctx} {w w' : World} {e : Env} {a : Act} (h : Fr N D c w e a) (hm : I4 c w c' w') {dst : Option Nat} (hd : dst.all (· < N) = true) {x : TV} {v : Value} (hx : Rep c' w' x v) : Fr N D c' w' (Zf e dst x) (a.put dst v) := by
 cases dst with
 | none => exact ⟨⟨fun s => Rep.mono hm (h.env.1 s), h.env.2.keep hm.stay⟩, h.size, h.defers⟩
 | some d =>
  have hd' : d < N := by simpa using hd
  refine ⟨⟨fun s => ?_, h.env.2.keep hm.stay⟩, by simp [Act.put, h.size], h.defers⟩
  show Rep c' w' (get ((d, x) :: e) s) ((a.tmps.setIfInBounds d v).getD s undef)
  rw [BK]
  by_cases hs : d = s
  ·subst hs
   rw [if_pos rfl]
   have : (a.tmps.setIfInBounds d v).getD d undef = v := by
    simp [Array.getD, h.size, hd']
   rw [this]; exact hx
  ·rw [if_neg hs]
   have : (a.tmps.setIfInBounds d v).getD s undef = a.tmps.getD s undef := by
    simp [Array.getElem?_setIfInBounds_ne hs]
   rw [this]; exact Rep.mono hm (h.env.1 s)

theorem AfW {β : Nat → Nat → Option (Nat × Nat)} {H : List Ob} {F : Nat → Prop} {w : World} {a : Act} {e : Env} {K : TV → List Ob → Prop} (hs : Sim ⟨β, H, F⟩ w) (he : A8 ⟨β, H, F⟩ w e a) {op : Op} {k n : Nat} {z : TV} {ps : List (Nat × Opd)} (ht : trS P op = some (.bslice k n z ps)) (h : pop (.bsl k n z ps) e H fun x => K x H) : Jn P β H F w a K op := by
 cases op
 case buildSlice t m qs =>
  simp only [trS] at ht
  split at ht
  ·rename_i h1; split at ht
   ·rename_i h2; split at ht
    ·rename_i h3; split at ht
     ·rename_i h4
      obtain ⟨zx, h5, e⟩ := Option.map_eq_some_iff.1 ht
      simp only [SOp.bslice.injEq] at e
      obtain ⟨rfl, rfl, rfl, rfl⟩ := e
      exact AsG hs he h1 h2 h3 h4 h5 h
     ·cases ht
    ·cases ht
   ·cases ht
  ·cases ht
 case next x b => cases b <;> simp [trS] at ht
 all_goals (simp only [trS] at ht; (repeat' split at ht) <;> first | (simp at ht; done) | skip)
theorem Ze {β : Nat → Nat → Option (Nat × Nat)} {H : List Ob} {F : Nat → Prop} {w : World} {a : Act} {e : Env} {K : TV → List Ob → Prop} (hs : Sim ⟨β, H, F⟩ w) (he : A8 ⟨β, H, F⟩ w e a) {op : Op} {vo : VOp} (ht : trV bz P op = some vo) (h : vop P vo e H K) : Jn P β H F w a K op := by
 unfold trV at ht
 split at ht
 ·rename_i po hp; cases ht
  exact Aw.does hs fun ty => Ahq hs he hp h
 ·obtain ⟨so, hso, hv⟩ := Option.map_eq_some_iff.1 ht
  split at hv
  ·subst hv; exact AfW hs he hso h
  ·subst hv; exact Agz hs he hso h

/-- What is asked of a reading of operations. -/
def Asz (P : Program) (β : Nat → Nat → Option (Nat × Nat)) (H : List Ob) (F : Nat → Prop) (w : World) (a : Act) (K : TV → List Ob → Prop) (KP : Value → List Ob → Prop) (op : Op) : Prop :=
 ∀ (o : Oper) (KK : Act → World → Prop) (Q : Exit → Act → World → Prop), o.op = op → (∀ c, op ≠ .defer c) →
  (∀ x H' β' F' w' v, K x H' → Sim ⟨β', H', F'⟩ w' → AO ⟨β, H, F⟩ w ⟨β', H', F'⟩ w' → Rep ⟨β', H', F'⟩ w' x v → KK (a.put o.dst v) w') →
  (∀ u H' β' F' w', KP u H' → Sim ⟨β', H', F'⟩ w' → AO ⟨β, H, F⟩ w ⟨β', H', F'⟩ w' → Q (.panic [{ v := u, recovered := false }]) a w') → OW P o a w KK Q
def NS (P : Program) (W : VOp → Env → List Ob → (TV → List Ob → Prop) → Prop) (KP : Value → List Ob → Prop) : Prop :=
 ∀ {β : Nat → Nat → Option (Nat × Nat)} {H : List Ob} {F : Nat → Prop} {w : World} {a : Act} {e : Env} {K : TV → List Ob → Prop}, Sim ⟨β, H, F⟩ w → A8 ⟨β, H, F⟩ w e a → ∀ {bz : Bool} {op : Op} {vo : VOp}, trV bz P op = some vo → W vo e H K → Asz P β H F w a K KP op
theorem NS.vop {KP : Value → List Ob → Prop} : NS P (vop P) KP := fun hs he _ _ _ ht h o KK Q ho hn hk _ => Ze hs he ht h o KK Q ho hn hk

theorem Yx {ops : Array Oper} {a : Act} {j s : Nat} (hj : (ops[j]?).bind (·.dst) = some s) : yielded ops a.tmps j = isB (a.tmps.getD s undef) := by
 unfold yielded
 rw [hj]
 simp only [Option.bind_some]
 rw [Array.getD_eq_getD_getElem?]
 cases h : a.tmps[s]? with
 | none => rfl
 | some v => cases v <;> rfl
theorem Fr.know {N : Nat} {D : List Deferred} {c : Ctx} {w : World} {e : Env} {a : Act} (h : Fr N D c w e a) (s : Nat) : Fr N D c w ((s, .val (a.tmps.getD s undef)) :: e) a :=
 ⟨⟨fun s' => by
  rw [BK]
  split
  ·rename_i hs; subst hs; exact Rep.of_val
  ·exact h.env.1 s', h.env.2⟩, h.size, h.defers⟩
theorem AdM {N : Nat} {D : List Deferred} {c : Ctx} {w : World} {e : Env} {a : Act} {s : Nat} {K : Env → Option Bool → Prop} (hf : Fr N D c w e a) (h : Aab e s K) : ∃ e', Fr N D c w e' a ∧ K e' (isB (a.tmps.getD s undef)) := by
 unfold Aab at h
 split at h
 ·rename_i v hv
  have := hf.env.1 s
  rw [hv, Rep.val] at this
  exact ⟨e, hf, by rw [this]; exact h⟩
 ·refine ⟨_, hf.know s, ?_⟩
  cases hb : isB (a.tmps.getD s undef) with
  | none => exact h.2 _ hb
  | some t =>
   have : a.tmps.getD s undef = .bool t := by
    generalize a.tmps.getD s undef = v at hb
    cases v <;> simp [isB] at hb
    rw [hb]
   rw [this]; exact h.1 t
 ·exact h.elim

theorem Ael {op : Op} {v : VOp} (h : trV bz P op = some v) : ∀ c, op ≠ .defer c := by
 intro c hc; subst hc; simp [trV, trP, trS] at h

theorem Abm {a : Act} {dst : Option Nat} {v : Value} {s : Nat} (h : dst ≠ some s) : (a.put dst v).tmps.getD s undef = a.tmps.getD s undef := by
 cases dst with
 | none => rfl
 | some d =>
  have hd : d ≠ s := fun e => h (by rw [e])
  show (a.tmps.setIfInBounds d v).getD s undef = _
  simp only [Array.getD_eq_getD_getElem?]
  rw [Array.getElem?_setIfInBounds_ne hd]
/-- What is known of the slots that the operations do not fill. -/
def AdA (l : List VO) (e : Env) : Env := e.filter fun p => l.all fun o => o.dst != some p.1
theorem Aci {l : List VO} : ∀ (e : Env) (s : Nat), get (AdA l e) s = if l.all (fun o => o.dst != some s) then get e s else .any
 | [], s => by simp [AdA, get]
 | (k, x) :: e, s => by
  have ih := Aci (l := l) e s
  unfold AdA at ih ⊢
  rw [List.filter_cons]
  by_cases hk : l.all (fun o => o.dst != some k) = true
  ·rw [if_pos hk, BK, BK, ih]
   by_cases e1 : k = s
   ·subst e1; rw [if_pos rfl, if_pos hk, if_pos rfl]
   ·rw [if_neg e1, if_neg e1]
  ·rw [if_neg hk, ih, BK]
   by_cases e1 : k = s
   ·subst e1; rw [if_neg hk, if_neg hk]
   ·rw [if_neg e1]
theorem Aht {P : Program} {N : Nat} {all : List Oper} : ∀ {os : List Oper} {l : List VO}, trL bz P N all os = some l → l.map (·.dst) = os.map (·.dst)
 | [], l, h => by simp only [trL, Option.some.injEq] at h; subst h; rfl
 | o :: os, l, h => by
  rw [trL] at h
  split at h
  ·split at h
   ·rename_i r _ _ hr _
    cases h
    simp [Aht hr]
   ·cases h
  ·cases h
theorem Fr.drop {N : Nat} {D : List Deferred} {c c' : Ctx} {w w' : World} {e : Env} {a a' : Act} (hf : Fr N D c w e a) (hm : I4 c w c' w') (h0 : Fr N D c' w' [] a') {all : List Oper} {os : List Oper} {l : List VO} (ht : trL bz P N all os = some l) (h : ∀ s, (∀ o ∈ os, o.dst ≠ some s) → a'.tmps.getD s undef = a.tmps.getD s undef) : Fr N D c' w' (AdA l e) a' := by
 refine ⟨⟨fun s => ?_, h0.env.2⟩, h0.size, h0.defers⟩
 rw [Aci]
 split
 ·rename_i hl
  rw [h s fun o ho e1 => ?_]
  ·exact Rep.mono hm (hf.env.1 s)
  ·have : some s ∈ l.map (·.dst) := by rw [Aht ht]; exact List.mem_map.2 ⟨o, ho, e1⟩
   obtain ⟨v, hv, hv2⟩ := List.mem_map.1 this
   have := List.all_eq_true.1 hl v hv
   rw [hv2] at this
   simp at this
 ·exact Rep.any
theorem L6 {W : VOp → Env → List Ob → (TV → List Ob → Prop) → Prop} {KP : Value → List Ob → Prop} (hW : NS P W KP) {N : Nat} {D : List Deferred} {ro : Option Nat} {nn : Nat} {all : Array Oper} {rest : List Oper} : ∀ {os : List Oper} {l : List VO}, trL bz P N all.toList os = some l → ∀ {K : Env → List Ob → Prop} {e : Env} {H : List Ob} {β : Nat → Nat → Option (Nat × Nat)} {F : Nat → Prop} {w : World} {a : Act} {QQ : Exit → Act → World → Prop},
  TD W l K e H → Sim ⟨β, H, F⟩ w → Fr N D ⟨β, H, F⟩ w e a →
  (∀ e' H' β' F' w' a', K e' H' → Sim ⟨β', H', F'⟩ w' → Fr N D ⟨β', H', F'⟩ w' e' a' → AO ⟨β, H, F⟩ w ⟨β', H', F'⟩ w' → wpListIn (fz ro) nn P all QQ rest a' w') →
  (∀ u H' β' F' w' a', KP u H' → Sim ⟨β', H', F'⟩ w' → Fr N D ⟨β', H', F'⟩ w' [] a' → (∀ s, (∀ o ∈ os, o.dst ≠ some s) → a'.tmps.getD s undef = a.tmps.getD s undef) → AO ⟨β, H, F⟩ w ⟨β', H', F'⟩ w' → QQ (.panic [{ v := u, recovered := false }]) a' w') → wpListIn (fz ro) nn P all QQ (os ++ rest) a w
 | [], l, ht, K, e, H, β, F, w, a, QQ, h, hs, hf, hk, hp => by
  simp only [trL, Option.some.injEq] at ht; subst ht
  exact hk e H β F w a h hs hf (AO.refl _ _)
 | o :: os, l, ht, K, e, H, β, F, w, a, QQ, h, hs, hf, hk, hp => by
  rw [trL] at ht
  split at ht
  ·rename_i v g r hv hg hr
   split at ht
   ·rename_i hd
    cases ht
    have go : W v e H (fun x H => TD W r K (Zf e o.dst x) H) → o.wpIn (fz ro) nn P a w (wpListIn (fz ro) nn P all QQ (os ++ rest)) QQ := fun h => by
     refine hW hs hf.env hv h o _ QQ rfl (Ael hv) ?_ (fun u H' β' F' w' hK hs' hl => hp u H' β' F' w' a hK hs' ⟨⟨fun _ => Rep.any, hs'.glob⟩, hf.size, hf.defers⟩ (fun _ _ => rfl) hl) ro nn
     intro x H' β' F' w' u hK hs' hl hx
     have hm := hl.mono hs
     exact L6 hW hr hK hs' (hf.put hm hd hx) (fun e' H'' β'' F'' w'' a' k1 k2 k3 k4 => hk _ _ _ _ _ _ k1 k2 k3 (hl.trans k4)) fun u H'' β'' F'' w'' a' k1 k2 k3 k5 k4 => hp _ _ _ _ _ _ k1 k2 k3 (fun s hs => (k5 s fun o ho => hs o (List.mem_cons_of_mem _ ho)).trans (Abm (hs o (by simp)))) (hl.trans k4)
    rw [List.cons_append, wpListIn]
    have hgd := hg
    rw [TD] at h
    cases hog : o.guard with
    | none =>
     rw [hog] at hg
     simp only [trG, Option.some.injEq] at hg; subst hg
     have : Region.wanted o (yielded all a.tmps) = true := by simp [Region.wanted, hog]
     rw [if_pos this]
     exact go h
    | some jb =>
     obtain ⟨j, b⟩ := jb
     rw [hog] at hg
     simp only [trG] at hg
     split at hg
     ·rename_i s hj
      cases hg
      simp only at h
      obtain ⟨e', hf', h⟩ := AdM hf h
      have hy : yielded all a.tmps j = isB (a.tmps.getD s undef) := Yx (by simpa using hj)
      have skip : TD W r K (Zf e' o.dst (.val undef)) H → wpListIn (fz ro) nn P all QQ (os ++ rest) (a.put o.dst undef) w := fun h => L6 hW hr h hs (hf'.put ⟨fun b hb => ⟨hb, rfl⟩, fun _ _ h => ⟨h, rfl⟩, fun _ _ => rfl⟩ hd Rep.of_val) hk fun u H'' β'' F'' w'' a' k1 k2 k3 k5 k4 => hp _ _ _ _ _ _ k1 k2 k3 (fun s hs => (k5 s fun o ho => hs o (List.mem_cons_of_mem _ ho)).trans (Abm (hs o (by simp)))) k4
      have go' : W v e' H (fun x H => TD W r K (Zf e' o.dst x) H) → o.wpIn (fz ro) nn P a w (wpListIn (fz ro) nn P all QQ (os ++ rest)) QQ := fun h => by
       refine hW hs hf'.env hv h o _ QQ rfl (Ael hv) ?_ (fun u H' β' F' w' hK hs' hl => hp u H' β' F' w' a hK hs' ⟨⟨fun _ => Rep.any, hs'.glob⟩, hf.size, hf.defers⟩ (fun _ _ => rfl) hl) ro nn
       intro x H' β' F' w' u hK hs' hl hx
       have hm := hl.mono hs
       exact L6 hW hr hK hs' (hf'.put hm hd hx) (fun e' H'' β'' F'' w'' a' k1 k2 k3 k4 => hk _ _ _ _ _ _ k1 k2 k3 (hl.trans k4)) fun u H'' β'' F'' w'' a' k1 k2 k3 k5 k4 => hp _ _ _ _ _ _ k1 k2 k3 (fun s hs => (k5 s fun o ho => hs o (List.mem_cons_of_mem _ ho)).trans (Abm (hs o (by simp)))) (hl.trans k4)
      cases hq : isB (a.tmps.getD s undef) with
      | some t =>
       rw [hq] at h hy
       by_cases htb : t = b
       ·subst htb
        have : Region.wanted o (yielded all a.tmps) = true := by simp [Region.wanted, hog, hy]
        rw [if_pos this]
        simp only [if_true] at h
        exact go' h
       ·have : ¬ (Region.wanted o (yielded all a.tmps) = true) := by simp [Region.wanted, hog, hy, htb]
        rw [if_neg this]
        simp only [htb, if_false] at h
        exact ⟨fun _ _ => trivial, skip h⟩
      | none =>
       rw [hq] at h hy
       have : ¬ (Region.wanted o (yielded all a.tmps) = true) := by simp [Region.wanted, hog, hy]
       rw [if_neg this]
       exact ⟨fun _ _ => trivial, skip h⟩
     ·cases hg
   ·cases ht
  ·cases ht

theorem Zz {W : VOp → Env → List Ob → (TV → List Ob → Prop) → Prop} {KP : Value → List Ob → Prop} (hW : NS P W KP) {N : Nat} {D : List Deferred} {ro : Option Nat} {nn : Nat} {all : Array Oper} {rest : List Oper} {os : List Oper} {l : List VO} (ht : trL bz P N all.toList os = some l) {K : Env → List Ob → Prop} {e : Env} {H : List Ob} {β : Nat → Nat → Option (Nat × Nat)} {F : Nat → Prop} {w : World} {a : Act} {QQ : Exit → Act → World → Prop}
  (h : TD W l K e H) (hs : Sim ⟨β, H, F⟩ w) (hf : Fr N D ⟨β, H, F⟩ w e a)
  (hk : ∀ e' H' β' F' w' a', K e' H' → Sim ⟨β', H', F'⟩ w' → Fr N D ⟨β', H', F'⟩ w' e' a' → AO ⟨β, H, F⟩ w ⟨β', H', F'⟩ w' → wpListIn (fz ro) nn P all QQ rest a' w')
  (hp : ∀ u H' β' F' w' a', KP u H' → Sim ⟨β', H', F'⟩ w' → Fr N D ⟨β', H', F'⟩ w' [] a' → AO ⟨β, H, F⟩ w ⟨β', H', F'⟩ w' → QQ (.panic [{ v := u, recovered := false }]) a' w') : wpListIn (fz ro) nn P all QQ (os ++ rest) a w :=
 L6 hW ht h hs hf hk fun u H' β' F' w' a' k1 k2 k3 _ k4 => hp u H' β' F' w' a' k1 k2 k3 k4

theorem AaK {N : Nat} {D : List Deferred} {ro : Option Nat} {nn : Nat} {all : Array Oper} {os : List Oper} {l : List VO} (ht : trL bz P N all.toList os = some l) {K : Env → List Ob → Prop} {e : Env} {H : List Ob} {β : Nat → Nat → Option (Nat × Nat)} {F : Nat → Prop} {w : World} {a : Act} {QQ : Exit → Act → World → Prop}
  (h : YS P l K e H) (hs : Sim ⟨β, H, F⟩ w) (hf : Fr N D ⟨β, H, F⟩ w e a)
  (hk : ∀ e' H' β' F' w' a', K e' H' → Sim ⟨β', H', F'⟩ w' → Fr N D ⟨β', H', F'⟩ w' e' a' → AO ⟨β, H, F⟩ w ⟨β', H', F'⟩ w' → QQ .normal a' w') : wpListIn (fz ro) nn P all QQ os a w := by
 have := Zz (NS.vop (KP := fun _ _ => False)) (rest := []) (QQ := QQ) (ro := ro) (nn := nn) ht h hs hf hk (fun _ _ _ _ _ _ h => h.elim)
 rwa [List.append_nil] at this

theorem Amk {op : Op} {so : SOp} (h : trV bz P op = some (.s so)) : trS P op = some so := by
 unfold trV at h
 split at h
 ·cases h
 ·obtain ⟨x, h1, h2⟩ := Option.map_eq_some_iff.1 h
  split at h2
  ·cases h2
  ·cases h2; exact h1
theorem Aio {op : Op} {f : FuncId} {xs : List Opd} (h : trV bz P op = some (.s (.call f xs))) : Ue P f = true ∧ ∃ (args : List Operand) (ts : Array TypeId), xs = args.map trO ∧ op = .call { callee := .value (.func f), args := args.toArray, argTypes := ts } := by
 replace h := Amk h
 cases op
 case call c =>
  obtain ⟨callee, cargs, cts⟩ := c
  simp only [trS] at h
  split at h
  ·(repeat' split at h) <;> simp at h
  ·(repeat' split at h) <;> simp at h
  ·(repeat' split at h) <;> simp at h
  ·(repeat' split at h) <;> simp at h
  ·rename_i g args _
   split at h
   ·rename_i hgo
    split at h
    ·split at h
     ·simp at h
     ·simp only [Option.some.injEq, SOp.call.injEq] at h
      obtain ⟨rfl, rfl⟩ := h
      refine ⟨hgo, cargs.toList, cts, ?_, by simp⟩
      simp [*]
    ·simp only [Option.some.injEq, SOp.call.injEq] at h
     obtain ⟨rfl, rfl⟩ := h
     exact ⟨hgo, cargs.toList, cts, rfl, by simp⟩
   ·simp at h
  ·simp at h
  ·simp at h
  ·simp at h
 case next x b => cases b <;> simp [trS] at h
 all_goals (simp only [trS] at h; (repeat' split at h) <;> first | (simp at h; done) | skip)
theorem AnC {op : Op} {x : Opd} (h : trV bz P op = some (.s (.pan x))) : ∃ y, x = trO y ∧ op = .panic y := by
 replace h := Amk h
 cases op
 case panic y => simp only [trS, Option.some.injEq, SOp.pan.injEq] at h; exact ⟨y, h.symm, rfl⟩
 case next x b => cases b <;> simp [trS] at h
 all_goals (simp only [trS] at h; (repeat' split at h) <;> first | (simp at h; done) | skip)
theorem Ade {β : Nat → Nat → Option (Nat × Nat)} {H : List Ob} {F : Nat → Prop} {w : World} {a : Act} {e : Env} {R : TV → List Ob → Prop} {RP : Value → List Ob → Prop} {o : Oper} {KK : Act → World → Prop} {Q : Exit → Act → World → Prop} (hs : Sim ⟨β, H, F⟩ w) (he : A8 ⟨β, H, F⟩ w e a) {f : FuncId} (hg : Ue P f = true) {args : List Operand} {ts : Array TypeId} (ho : o.op = .call { callee := .value (.func f), args := args.toArray, argTypes := ts })
  (ht : ∀ x ∈ args.map trO, BP (x.ev e) = false) (h : Vu P f ((args.map trO).map (·.ev e)) H R RP)
  (hk : ∀ x H' β' F' w' v, R x H' → Sim ⟨β', H', F'⟩ w' → AO ⟨β, H, F⟩ w ⟨β', H', F'⟩ w' → Rep ⟨β', H', F'⟩ w' x v → KK (a.put o.dst v) w')
  (hp : ∀ u H' β' F' w', RP u H' → Sim ⟨β', H', F'⟩ w' → AO ⟨β, H, F⟩ w ⟨β', H', F'⟩ w' → Q (.panic [{ v := u, recovered := false }]) a w') : OW P o a w KK Q := by
 have hv := PO he args fun x hx => ht _ (List.mem_map_of_mem hx)
 refine OW.of_wp (by rw [ho]; simp) ?_
 have := h β F w _ hs hv
 unfold Oper.wp
 simp only [execOp, ho, resolve, Act.eval, Deferred.ofValue, Sem.run_bind, Sem.run_pure, Result.andThen_ok, invoke, I9 hg]
 rw [Oper.upon_enter]
 have e1 : (args.map a.eval).toArray ++ #[] = (args.map a.eval).toArray := by simp
 refine Calls.mono (R := fun e w' => ∃ β' H' F', Sim ⟨β', H', F'⟩ w' ∧ AO ⟨β, H, F⟩ w ⟨β', H', F'⟩ w' ∧ ((∃ v x, e = .returned v ∧ R x H' ∧ Rep ⟨β', H', F'⟩ w' x v) ∨ ∃ u, e = .panicked [{ v := u, recovered := false }] ∧ RP u H')) (by simpa using this) ?_
 rintro e' w' ⟨β', H', F', h1, h2, ⟨v, x, rfl, h3, h4⟩ | ⟨u, rfl, h3⟩⟩
 ·exact hk _ _ _ _ _ _ h3 h1 h2 h4
 ·exact hp _ _ _ _ _ h3 h1 h2
theorem NS.pvop {KP : Value → List Ob → Prop} : NS P (pvop P KP) KP := by
 intro β H F w a e K hs he bz op vo ht h o KK Q ho hn hk hp
 unfold Go.Proofs.YtingoaihnlhiaaaDoor.pvop at h
 split at h
 ·rename_i f xs
  obtain ⟨h1, h2⟩ := h
  obtain ⟨hgo, args, ts, rfl, hop⟩ := Aio ht
  exact Ade hs he hgo (ho.trans hop) h1 h2 hk hp
 ·rename_i x
  obtain ⟨y, rfl, hop⟩ := AnC ht
  split at h
  ·rename_i t v hx
   have hev : a.eval y = .iface t v := he.val hx
   refine OW.of_wp (by rw [ho]; exact hn) ?_
   unfold Oper.wp
   simp only [execOp, ho.trans hop, hev, Sem.run_bind]
   exact hp _ _ _ _ _ h hs (AO.refl _ _)
  ·rename_i t v hx
   have hev : a.eval y = .iface t v := by
    have hr := he.rep (x := y) hx
    have h1 := hr.inv1 (by simp) (by simp) (by simp) (by simp) (by simp)
    rw [Aj] at h1
    obtain ⟨u, hu, vs, h2, rfl⟩ := h1
    rw [Aj] at h2
    obtain ⟨rfl, _⟩ := h2
    simpa [mkV] using hu
   refine OW.of_wp (by rw [ho]; exact hn) ?_
   unfold Oper.wp
   simp only [execOp, ho.trans hop, hev, Sem.run_bind]
   exact hp _ _ _ _ _ h hs (AO.refl _ _)
  ·exact h.elim
 ·exact Ze hs he ht h o KK Q ho hn hk
theorem AcW {N : Nat} {D : List Deferred} {ro : Option Nat} {nn : Nat} {all : Array Oper} {os : List Oper} {l : List VO} (ht : trL bz P N all.toList os = some l) {K : Env → List Ob → Prop} {KP : Value → List Ob → Prop} {e : Env} {H : List Ob} {β : Nat → Nat → Option (Nat × Nat)} {F : Nat → Prop} {w : World} {a : Act} {QQ : Exit → Act → World → Prop}
  (h : Us P KP l K e H) (hs : Sim ⟨β, H, F⟩ w) (hf : Fr N D ⟨β, H, F⟩ w e a)
  (hk : ∀ e' H' β' F' w' a', K e' H' → Sim ⟨β', H', F'⟩ w' → Fr N D ⟨β', H', F'⟩ w' e' a' → AO ⟨β, H, F⟩ w ⟨β', H', F'⟩ w' → QQ .normal a' w')
  (hp : ∀ u H' β' F' w' a', KP u H' → Sim ⟨β', H', F'⟩ w' → Fr N D ⟨β', H', F'⟩ w' (AdA l e) a' → AO ⟨β, H, F⟩ w ⟨β', H', F'⟩ w' → QQ (.panic [{ v := u, recovered := false }]) a' w') : wpListIn (fz ro) nn P all QQ os a w := by
 have := L6 (NS.pvop (KP := KP)) (rest := []) (QQ := QQ) (ro := ro) (nn := nn) ht h hs hf hk fun u H' β' F' w' a' k1 k2 k3 k5 k4 => hp u H' β' F' w' a' k1 k2 (hf.drop (k4.mono hs) k3 ht k5) k4
 rwa [List.append_nil] at this

end sound
end Go.Proofs.YtingoaihnlhiaaaDoor


namespace Go.Proofs.YtingoaihnlhiaaaDoor
open Go.RowKit
variable [Bc]
set_option linter.unusedSectionVars false
set_option linter.unusedSimpArgs false
set_option linter.unusedVariables false
set_option autoImplicit false

def Un (o : Oper) : List Nat := (o.after.toList.filter (Region.binds .any)).map (·.on)
def AhK (ps : List Nat) (acc : List Nat) : Nat := ps.foldl (fun s p => s ||| 2 ^ p ||| acc.getD p 0) 0
def Aff : List Oper → List Nat → List Nat
 | [], acc => acc
 | o :: r, acc => Aff r (acc ++ [AhK (Un o) acc])
def cls (ops : List Oper) : List Nat := Aff ops []

/-- A set of numbers that has what stands ahead of each. -/
def Ad3 (ops : List Oper) (S : Nat → Prop) : Prop := ∀ i o, ops[i]? = some o → S i → ∀ p ∈ Un o, S p

theorem Adw {ps acc : List Nat} {k : Nat} (h : (AhK ps acc).testBit k = true) : ∃ p ∈ ps, k = p ∨ (acc.getD p 0).testBit k = true := by
 unfold AhK at h
 have key : ∀ (ps : List Nat) (s : Nat), (ps.foldl (fun s p => s ||| 2 ^ p ||| acc.getD p 0) s).testBit k = true → s.testBit k = true ∨ ∃ p ∈ ps, k = p ∨ (acc.getD p 0).testBit k = true := by
  intro ps
  induction ps with
  | nil => intro s h; exact .inl h
  | cons p ps ih =>
   intro s h
   rcases ih _ h with h1 | ⟨q, hq, h1⟩
   ·rw [Nat.testBit_or, Nat.testBit_or, Bool.or_eq_true, Bool.or_eq_true] at h1
    rcases h1 with (h1 | h1) | h1
    ·exact .inl h1
    ·rw [Nat.testBit_two_pow] at h1
     exact .inr ⟨p, by simp, .inl (by simpa using h1 : p = k).symm⟩
    ·exact .inr ⟨p, by simp, .inr h1⟩
   ·exact .inr ⟨q, by simp [hq], h1⟩
 rcases key ps 0 h with h | h
 ·simp at h
 ·exact h

theorem Yd {all : List Oper} : ∀ (rest done : List Oper) (acc : List Nat), all = done ++ rest → acc.length = done.length →
  (∀ (j m : Nat) (o : Oper), acc[j]? = some m → all[j]? = some o → ∀ S, Ad3 all S → (∀ p ∈ Un o, S p) → ∀ k, m.testBit k = true → S k) →
  (Aff rest acc).length = all.length ∧ ∀ (j m : Nat) (o : Oper), (Aff rest acc)[j]? = some m → all[j]? = some o → ∀ S, Ad3 all S → (∀ p ∈ Un o, S p) → ∀ k, m.testBit k = true → S k
 | [], done, acc, h1, h2, h3 => ⟨by rw [Aff, h1]; simpa using h2, h3⟩
 | o :: rest, done, acc, h1, h2, h3 => by
  rw [Aff]
  refine Yd rest (done ++ [o]) _ (by rw [h1]; simp) (by simp [h2]) ?_
  intro j m o' hm ho S hS hp k hk
  rcases Nat.lt_trichotomy j acc.length with h | h | h
  ·rw [List.getElem?_append_left h] at hm
   exact h3 j m o' hm ho S hS hp k hk
  ·subst h
   simp at hm; subst hm
   have ho' : o' = o := by
    rw [h1, h2, List.getElem?_append_right (Nat.le_refl _)] at ho
    simpa using ho.symm
   subst ho'
   obtain ⟨p, hpp, hkp⟩ := Adw hk
   rcases hkp with rfl | hkp
   ·exact hp k hpp
   ·cases hq : acc[p]? with
    | none => rw [List.getD_eq_getElem?_getD, hq] at hkp; simp at hkp
    | some mp =>
     rw [List.getD_eq_getElem?_getD, hq] at hkp
     have hpl : p < done.length := by rw [← h2]; exact (List.getElem?_eq_some_iff.1 hq).1
     have hop : all[p]? = some done[p] := by rw [h1, List.getElem?_append_left hpl]; simp [hpl]
     exact h3 p mp _ hq hop S hS (hS p _ hop (hp p hpp)) k hkp
  ·rw [List.getElem?_eq_none (by simp; omega)] at hm; cases hm

theorem AdY {all : List Oper} {i m : Nat} {o : Oper} (hm : (cls all)[i]? = some m) (ho : all[i]? = some o) {S : Nat → Prop} (hS : Ad3 all S) (hp : ∀ p ∈ Un o, S p) {k : Nat} (hk : m.testBit k = true) : S k :=
 (Yd all [] [] rfl rfl (by simp)).2 i m o hm ho S hS hp k hk
theorem Ub (all : List Oper) : (cls all).length = all.length := (Yd all [] [] rfl rfl (by simp)).1

def SOp.rd : SOp → List Nat
 | .alloc _ | .allocT _ _ => []
 | .pan x | .eqS x _ | .box x | .s2b x | .boxT x _ | .bstr _ x | .rngS x | .nxtS x | .rngM x | .nxtM x | .clrS _ _ x => x.rd
 | .bslice _ _ _ ps => ps.flatMap fun q => q.2.rd
 | .store _ x y | .mks _ _ _ x y | .app _ _ _ x y | .appS _ x y | .appZ _ _ _ x y | .copy _ x y | .copyS x y | .ment _ _ x y | .delM _ x y => x.rd ++ y.rd
 | .call _ args => args.flatMap Opd.rd
 | .callv x args | .inv x _ args => x.rd ++ args.flatMap Opd.rd
 | .mkm _ h => rdO h
 | .mupd _ x y z | .mest x y z => x.rd ++ (y.rd ++ z.rd)
theorem AgV {P : Program} {o : SOp} {e e' : Env} (h : ∀ s ∈ o.rd, get e s = get e' s) (H : List Ob) (K : TV → List Ob → Prop) : sop P o e H K = sop P o e' H K := by
 have two : ∀ {x y : Opd}, (∀ s ∈ x.rd ++ y.rd, get e s = get e' s) → x.ev e = x.ev e' ∧ y.ev e = y.ev e' := fun h => ⟨AB fun s hs => h s (List.mem_append_left _ hs), AB fun s hs => h s (List.mem_append_right _ hs)⟩
 have tups : ∀ {xs : List Opd}, (∀ s ∈ xs.flatMap Opd.rd, get e s = get e' s) → (∀ x ∈ xs, BP (x.ev e) = false) = (∀ x ∈ xs, BP (x.ev e') = false) := fun {xs} h => propext
  ⟨fun k x hx => by rw [← AB (e := e) (e' := e') fun s hs => h s (List.mem_flatMap.2 ⟨x, hx, hs⟩)]; exact k x hx, fun k x hx => by rw [AB (e := e) (e' := e') fun s hs => h s (List.mem_flatMap.2 ⟨x, hx, hs⟩)]; exact k x hx⟩
 cases o with
 | alloc z => rfl
 | pan x => rfl
 | allocT z t => rfl
 | boxT x t => simp only [sop, AB (x := x) h]
 | eqS x n => simp only [sop, AB (x := x) h]
 | bstr f x => simp only [sop, AB (x := x) h]
 | rngS x => simp only [sop, AB (x := x) h]
 | nxtS x => simp only [sop, AB (x := x) h]
 | rngM x => simp only [sop, AB (x := x) h]
 | nxtM x => simp only [sop, AB (x := x) h]
 | clrS k z x => simp only [sop, AB (x := x) h]
 | box x => simp only [sop, AB (x := x) h]
 | s2b x => simp only [sop, AB (x := x) h]
 | bslice k n z ps =>
  obtain ⟨k1, k2, k3⟩ := LK h (List.replicate n z) (List.replicate n k)
  simp only [sop, k1, k2, k3]
 | store sz x y => obtain ⟨h1, h2⟩ := two h; simp only [sop, h1, h2]
 | mks k b z x y => obtain ⟨h1, h2⟩ := two h; simp only [sop, h1, h2]
 | app k b et x y => obtain ⟨h1, h2⟩ := two h; simp only [sop, h1, h2]
 | appS et x y => obtain ⟨h1, h2⟩ := two h; simp only [sop, h1, h2]
 | appZ k b z x y => obtain ⟨h1, h2⟩ := two h; simp only [sop, h1, h2]
 | copy k x y => obtain ⟨h1, h2⟩ := two h; simp only [sop, h1, h2]
 | copyS x y => obtain ⟨h1, h2⟩ := two h; simp only [sop, h1, h2]
 | ment kk z x y => obtain ⟨h1, h2⟩ := two h; simp only [sop, h1, h2]
 | delM kk x y => obtain ⟨h1, h2⟩ := two h; simp only [sop, h1, h2]
 | call f args => simp only [sop, DJ (xs := args) (e := e) (e' := e') h, tups (xs := args) h]
 | inv x nm args =>
  have h1 := AB (x := x) (e := e) (e' := e') fun s hs => h s (List.mem_append_left _ hs)
  have h2 := fun s hs => h s (List.mem_append_right x.rd hs)
  simp only [sop, h1, DJ (xs := args) (e := e) (e' := e') h2, tups (xs := args) h2]
 | callv x args =>
  have h1 := AB (x := x) (e := e) (e' := e') fun s hs => h s (List.mem_append_left _ hs)
  have h2 := fun s hs => h s (List.mem_append_right x.rd hs)
  simp only [sop, h1, DJ (xs := args) (e := e) (e' := e') h2, tups (xs := args) h2]
 | mkm kk r =>
  cases r with
  | none => rfl
  | some x => simp only [sop, AB (x := x) (e := e) (e' := e') h]
 | mupd kk x y z =>
  have h1 := AB (x := x) (e := e) (e' := e') fun s hs => h s (List.mem_append_left _ hs)
  obtain ⟨h2, h3⟩ := two (x := y) (y := z) fun s hs => h s (List.mem_append_right x.rd hs)
  simp only [sop, h1, h2, h3]
 | mest x y z =>
  have h1 := AB (x := x) (e := e) (e' := e') fun s hs => h s (List.mem_append_left _ hs)
  obtain ⟨h2, h3⟩ := two (x := y) (y := z) fun s hs => h s (List.mem_append_right x.rd hs)
  simp only [sop, h1, h2, h3]
def VO.rd (o : VO) : List Nat := (match o.op with | .p o => o.rd | .s o => o.rd) ++ (match o.g with | none => [] | some (s, _) => [s])

theorem AgI {P : Program} {v : VO} {e e' : Env} (h : ∀ s ∈ v.rd, get e s = get e' s) (H : List Ob) (K : TV → List Ob → Prop) : vop P v.op e H K = vop P v.op e' H K := by
 have h1 : ∀ s ∈ (match v.op with | .p o => o.rd | .s o => o.rd), get e s = get e' s := fun s hs => h s (List.mem_append_left _ hs)
 cases ho : v.op with
 | p o => rw [ho] at h1; exact Ab1 h1 H fun x => K x H
 | s o => rw [ho] at h1; exact AgV h1 H K

/-- It looks at no object. -/
def noH : POp → Bool
 | .b2s _ | .load _ _ _ | .slA _ _ _ _ _ | .gen _ _ => false
 | _ => true
theorem AmM {o : POp} (h : noH o = true) {e : Env} {H H' : List Ob} {K : TV → Prop} : pop o e H K = pop o e H' K := by
 cases o <;> first | rfl | simp [noH] at h
/-- A question to a map, by slots. -/
def Ag2 : POp → Option (MK × TV × Nat × Nat)
 | .gen (.look kk z false) [.t a, .t b] => some (kk, z, a, b)
 | _ => none
theorem AcS {o : POp} {kk : MK} {z : TV} {a b : Nat} (h : Ag2 o = some (kk, z, a, b)) : o = .gen (.look kk z false) [.t a, .t b] := by
 unfold Ag2 at h
 split at h
 ·cases h; rfl
 ·cases h
def Anw : TV → TV → Bool
 | .val (.int k a), .val (.int k' b) => decide (k = k') && decide (a = b)
 | _, _ => false
theorem Ae2 {x y : TV} (h : Anw x y = true) : x = y := by
 unfold Anw at h
 split at h
 ·simp only [Bool.and_eq_true, decide_eq_true_eq] at h; rw [h.1, h.2]
 ·cases h
/-- What is Tt at, by a slot. -/
def Ab3 : POp → Option Nat
 | .load _ _ (.t s) => some s
 | _ => none
theorem Zq {o : POp} {s : Nat} (h : Ab3 o = some s) : ∃ ag sz, o = .load ag sz (.t s) := by
 unfold Ab3 at h
 split at h
 ·cases h; exact ⟨_, _, rfl⟩
 ·cases h
/-- The slots that are Tt through. -/
def An9 (l : List VO) : List Nat := l.filterMap fun v => match v.op with
 | .p o => Ab3 o
 | _ => none
/-- What these slots point to is aS it was. -/
def VZ (Ss : List Nat) (e : Env) (H H' : List Ob) : Prop := ∀ s ∈ Ss, ∀ id ver p, get e s = .op id ver p → H'[id]? = H[id]?
theorem VZ.nil {e : Env} {H H' : List Ob} : VZ [] e H H' := fun _ h => by cases h
/-- What may be done while a question to a map is still to be asked: nothing but that key's entry changes. -/
def AbX (Ss : List Nat) (o : POp) : VOp → Bool
 | .p _ => true
 | .s (.alloc _) | .s (.bstr _ _) | .s (.bslice _ _ _ _) | .s (.s2b _) | .s (.mks _ _ _ _ _) => true
 | .s (.call _ _) => (match Ab3 o with
  | some s => Ss.contains s
  | none => false)
 | .s (.store _ _ _) => (match Ab3 o with
  | some s => Ss.contains s
  | none => false)
 | .s (.ment kk' z' (.t a') (.t b')) => (match Ag2 o with
  | some (kk, z, a, b) => decide (kk' = kk) && Anw z' z && decide (a' = a) && decide (b' = b)
  | none => false)
 | _ => false
/-- What becomes of the objects. -/
def AcT (Ss : List Nat) (u : VOp) (e : Env) (H H' : List Ob) : Prop := match u with
 | .p _ => H' = H
 | .s (.alloc _) | .s (.bslice _ _ _ _) | .s (.s2b _) | .s (.mks _ _ _ _ _) => ∃ o, H' = H ++ [o]
 | .s (.call _ _) => VZ Ss e H H'
 | .s (.store _ _ _) => VZ Ss e H H'
 | .s (.bstr _ _) => ∃ j v t l, H[j]? = some (.bld v t l) ∧ H' = H.set j (.gone v)
 | .s (.ment kk z x y) => ∃ id kb es, x.ev e = .mp id 0 ∧ BC kk (y.ev e) = some kb ∧ H[id]? = some (.mpo kk es) ∧ H' = H.set id (.mpo kk (Hg kb ((GL kb es).getD z) es))
 | _ => True
theorem Af4 {P : Program} {u : VOp} {e : Env} {H : List Ob} {K : TV → List Ob → Prop} (h : vop P u e H K) : vop P u e H (fun x H' => K x H' ∧ AcT [] u e H H') := by
 cases u with
 | p o =>
  have h' : pop o e H fun x => K x H := h
  obtain ⟨x, h1, h2⟩ := AgR h'
  exact h1 (fun x => K x H ∧ H = H) ⟨h2, rfl⟩
 | s o =>
  cases o with
  | alloc z => exact ⟨h, _, rfl⟩
  | bslice k n z ps => exact ⟨h.1, h.2, _, rfl⟩
  | s2b x =>
   have h' : sop P (.s2b x) e H K := h
   show sop P (.s2b x) e H fun v H' => K v H' ∧ AcT [] (.s (.s2b x)) e H H'
   simp only [sop] at h' ⊢
   split at h'
   ·exact ⟨h'.1, h'.2, _, rfl⟩
   ·exact h'.elim
  | mks k by' z x y =>
   have h' : sop P (.mks k by' z x y) e H K := h
   show sop P (.mks k by' z x y) e H fun v H' => K v H' ∧ AcT [] (.s (.mks k by' z x y)) e H H'
   simp only [sop] at h' ⊢
   split at h'
   ·exact ⟨h'.1, h'.2, _, rfl⟩
   ·exact h'.elim
  | call f args =>
   have e1 : (fun x H' => K x H' ∧ AcT [] (.s (.call f args)) e H H') = K := funext fun x => funext fun H' => propext ⟨fun h => h.1, fun h => ⟨h, VZ.nil⟩⟩
   rw [e1]; exact h
  | store sz y z =>
   have e1 : (fun x H' => K x H' ∧ AcT [] (.s (.store sz y z)) e H H') = K := funext fun x => funext fun H' => propext ⟨fun h => h.1, fun h => ⟨h, VZ.nil⟩⟩
   rw [e1]; exact h
  | bstr f x =>
   have h' : sop P (.bstr f x) e H K := h
   show sop P (.bstr f x) e H fun v H' => K v H' ∧ AcT [] (.s (.bstr f x)) e H H'
   simp only [sop] at h' ⊢
   refine ⟨h'.1, ?_⟩
   have h2 := h'.2
   split at h2
   ·rename_i j v l hr
    obtain ⟨_, _, _, _, _, _, _, _, _, _, h5⟩ := AaI hr
    exact ⟨h2.1, h2.2, j, v, _, l, h5, rfl⟩
   ·exact h2.elim
  | ment kk z x y =>
   have h' : sop P (.ment kk z x y) e H K := h
   show sop P (.ment kk z x y) e H fun v H' => K v H' ∧ AcT [] (.s (.ment kk z x y)) e H H'
   simp only [sop] at h' ⊢
   split at h'
   ·rename_i id kb hx hy
    split at h'
    ·rename_i kk' es hid
     obtain ⟨rfl, h'⟩ := h'
     simp only [hid, true_and]
     exact ⟨h', id, kb, es, hx, hy, hid, rfl⟩
    ·exact h'.elim
   ·exact h'.elim
  | _ =>
   have e1 : (fun x H' => K x H' ∧ True) = K := funext fun x => funext fun H' => propext ⟨fun h => h.1, fun h => ⟨h, trivial⟩⟩
   rw [← e1] at h; exact h
theorem Aar {k : List UInt8} {x : TV} : ∀ {es : List (List UInt8 × TV)}, GL k (Hg k x es) = some x
 | [] => by simp [Hg, GL]
 | (q, y) :: es => by
  rw [Hg]
  by_cases hq : q = k
  ·subst hq; simp [GL]
  ·rw [if_neg hq, GL, if_neg hq, Aar]
theorem Aak {H : List Ob} {k : Nat} {x : TV} {cs : List TV} {o : Ob} (h : BZ H k x = some cs) : BZ (H ++ [o]) k x = some cs := by
 cases x with
 | os k' id ver p off n cp =>
  simp only [BZ] at h ⊢
  split at h
  ·rename_i hk
   split at h
   ·rename_i v y hid
    rw [List.getElem?_append_left (List.getElem?_eq_some_iff.1 hid).1, hid]
    simp only [hk, if_true]
    exact h
   ·cases h
  ·cases h
 | _ => first | exact h | (simp [BZ] at h)
theorem Aca {H : List Ob} {k j v : Nat} {t : TypeId} {l : List UInt8} {x : TV} {cs : List TV} (hj : H[j]? = some (.bld v t l)) (h : BZ H k x = some cs) : BZ (H.set j (.gone v)) k x = some cs := by
 cases x with
 | os k' id ver p off n cp =>
  simp only [BZ] at h ⊢
  split at h
  ·rename_i hk
   split at h
   ·rename_i v2 y hid
    have hne : j ≠ id := fun e => by subst e; rw [hj] at hid; cases hid
    rw [List.getElem?_set_ne hne, hid]
    simp only [hk, if_true]
    exact h
   ·cases h
  ·cases h
 | _ => first | exact h | (simp [BZ] at h)
/-- What looks at objects looks at the same where those are that are Tt at. -/
theorem Aef {o : POp} {e : Env} {H H' : List Ob} {K : TV → Prop} (hk : ∀ (id : Nat) ob, H[id]? = some ob → (∀ v t l, ob ≠ .bld v t l) → H'[id]? = some ob) (he : ∀ k x cs, BZ H k x = some cs → BZ H' k x = some cs) (h : pop o e H K) : pop o e H' K := by
 cases o with
 | load ag sz x =>
  simp only [pop] at h ⊢
  split at h
  ·exact h
  ·split at h
   ·rename_i v y hid
    rw [hk _ _ hid (by simp)]; exact h
   ·exact h.elim
  ·exact h.elim
 | b2s x =>
  simp only [pop] at h ⊢
  split at h
  ·rename_i cs hc; rw [he _ _ _ hc]; exact h
  ·exact h.elim
 | slA n k x lo hi =>
  simp only [pop] at h ⊢
  split at h
  ·exact h
  ·split at h
   ·rename_i v y hid
    rw [hk _ _ hid (by simp)]; exact h
   ·exact h.elim
  ·exact h.elim
 | gen g xs =>
  simp only [pop] at h ⊢
  have hg : ∀ (ys : List TV) r, gev g H ys = some r → gev g H' ys = some r := by
   intro ys r hr
   unfold gev at hr ⊢
   split at hr
   ·exact hr
   ·exact hr
   ·exact hr
   ·rename_i kk z ok x k
    simp only [Aa4] at hr ⊢
    split at hr
    ·split at hr
     ·rename_i id kk' es kb h1 h2
      rw [hk _ _ h1 (by simp), h2]; exact hr
     ·rename_i id kk' zs cl kb h1 h2
      rw [hk _ _ h1 (by simp), h2]; exact hr
     ·cases hr
    ·exact hr
    ·cases hr
   ·rename_i x
    simp only [AkX] at hr ⊢
    split at hr
    ·split at hr
     ·rename_i h1
      rw [hk _ _ h1 (by simp)]; exact hr
     ·rename_i h1
      rw [hk _ _ h1 (by simp)]; exact hr
     ·cases hr
    ·exact hr
    ·cases hr
   ·exact hr
   ·rename_i id
    have hst : ∀ (m : Nat) z, stO H[m]? = some z → stO H'[m]? = some z := by
     intro m z hz
     cases hm : H[m]? with
     | none => rw [hm] at hz; simp [stO] at hz
     | some ob =>
      rw [hm] at hz
      rw [hk _ _ hm (by intro v t l e; subst e; simp [stO] at hz)]; exact hz
    simp only [Aq3] at hr ⊢
    split at hr
    ·rename_i h1
     rw [hk _ _ h1 (by simp)]
     split at hr
     ·rename_i h2 h3
      dsimp only
      rw [hst _ _ h2, h3]; exact hr
     ·cases hr
    ·cases hr
   ·exact hr
   ·exact hr
   ·exact hr
   ·cases hr
  cases hgl : gev g H (xs.map (·.ev e)) with
  | none => rw [hgl] at h; exact h.elim
  | some r => rw [hgl] at h; rw [hg _ r hgl]; exact h
 | _ => exact h
/-- A question that is still to be asked is answered aS before. -/
theorem Acl {Ss : List Nat} {o : POp} {u : VOp} {e es : Env} {H H' : List Ob} {x : TV} (hf : noH o = true ∨ AbX Ss o u = true) (hr : AcT Ss u e H H') (hes : ∀ s ∈ o.rd, get es s = get e s ∨ get es s = .any) (h : ∀ K : TV → Prop, K x → pop o es H K) : ∀ K : TV → Prop, K x → pop o es H' K := by
 intro K hK
 have app : (∃ o, H' = H ++ [o]) → pop o es H' K := by
  rintro ⟨ob, rfl⟩
  exact Aef (fun id ob' h1 _ => by rw [List.getElem?_append_left (List.getElem?_eq_some_iff.1 h1).1]; exact h1) (fun k x cs => Aak) (h K hK)
 rcases hf with hf | hf
 ·rw [AmM hf (H' := H)]; exact h K hK
 ·unfold AbX at hf
  split at hf
  ·have hr' : H' = H := hr
   rw [hr']; exact h K hK
  ·exact app hr
  ·obtain ⟨j, v, t, l, hj, rfl⟩ := hr
   exact Aef (fun id ob h1 h2 => by
    have hne : j ≠ id := fun e => by subst e; rw [hj] at h1; cases h1; exact h2 _ _ _ rfl
    rw [List.getElem?_set_ne hne]; exact h1) (fun k x cs => Aca hj) (h K hK)
  ·exact app hr
  ·exact app hr
  ·exact app hr
  ·split at hf
   ·rename_i s hl
    obtain ⟨ag, sz, rfl⟩ := Zq hl
    have h9 := h K hK
    have hs := hes s (by simp [POp.rd, Opd.rd])
    simp only [pop, Opd.ev] at h9 ⊢
    rcases hs with hs | hs
    case inr => rw [hs] at h9; exact h9.elim
    have hr' : VZ Ss e H H' := hr
    split at h9
    ·exact h9
    ·rename_i id ver p hx
     rw [hr' s (by simpa using hf) id ver p (by rw [← hs]; exact hx)]
     exact h9
    ·exact h9.elim
   ·cases hf
  ·split at hf
   ·rename_i s hl
    obtain ⟨ag, sz, rfl⟩ := Zq hl
    have h9 := h K hK
    have hs := hes s (by simp [POp.rd, Opd.rd])
    simp only [pop, Opd.ev] at h9 ⊢
    rcases hs with hs | hs
    case inr => rw [hs] at h9; exact h9.elim
    have hr' : VZ Ss e H H' := hr
    split at h9
    ·exact h9
    ·rename_i id ver p hx
     rw [hr' s (by simpa using hf) id ver p (by rw [← hs]; exact hx)]
     exact h9
    ·exact h9.elim
   ·cases hf
  ·rename_i kk' z' a' b'
   split at hf
   ·rename_i kk z a b hl
    simp only [Bool.and_eq_true, decide_eq_true_eq] at hf
    obtain ⟨⟨⟨rfl, hz⟩, rfl⟩, rfl⟩ := hf
    obtain rfl := Ae2 hz
    have ho := AcS hl
    subst ho
    obtain ⟨id, kb, es0, h1, h2, h3, h4⟩ := hr
    have h9 := h K hK
    have hA : get e a' = .mp id 0 := h1
    have hB : BC kk' (get e b') = some kb := h2
    have ha := hes a' (by simp [POp.rd, Opd.rd])
    have hb := hes b' (by simp [POp.rd, Opd.rd])
    have h10 := h (fun y => y = x) rfl
    simp only [pop, gev, List.map_cons, List.map_nil, Opd.ev] at h9 h10 ⊢
    rcases ha with ha | ha
    case inr => rw [ha] at h9; simp [Aa4] at h9
    rcases hb with hb | hb
    case inr => rw [ha, hA, hb] at h9; simp [Aa4, BC] at h9
    rw [ha, hA, hb] at h9 h10 ⊢
    have hlt : id < H.length := (List.getElem?_eq_some_iff.1 h3).1
    simp only [Aa4, h3, hB, if_true] at h9 h10
    rw [h4]
    simp only [Aa4, List.getElem?_set_self hlt, hB, if_true, Aar]
    simp only [YX, if_false] at h9 h10 ⊢
    simpa using h9
   ·cases hf
  ·cases hf
/-- An operation that is done only if a slot says so. -/
def AfE (g : Option (Nat × Bool)) (o : POp) (e : Env) (H : List Ob) (K : TV → Prop) : Prop := match g with
 | none => pop o e H K
 | some (s, b) => match get e s with
  | .val x => if isB x = some b then pop o e H K else K (.val undef)
  | _ => False
theorem AaU {Ss : List Nat} {d : Option Nat} {g : Option (Nat × Bool)} {o : POp} {u : VOp} {e es : Env} {H H' : List Ob} {x : TV} (hf : noH o = true ∨ AbX Ss o u = true) (hr : AcT Ss u e H H') (hes : ∀ s ∈ (VO.mk d (.p o) g).rd, get es s = get e s ∨ get es s = .any) (h : ∀ K : TV → Prop, K x → AfE g o es H K) : ∀ K : TV → Prop, K x → AfE g o es H' K := by
 have hes' : ∀ s ∈ o.rd, get es s = get e s ∨ get es s = .any := fun s hs => hes s (List.mem_append_left _ hs)
 cases g with
 | none => exact Acl hf hr hes' h
 | some sb =>
  obtain ⟨s, b⟩ := sb
  intro K hK
  have h1 := h K hK
  unfold AfE at h1 ⊢
  simp only at h1 ⊢
  split at h1
  ·rename_i v hv
   by_cases ht : isB v = some b
   ·rw [if_pos ht] at h1 ⊢
    refine Acl hf hr hes' (x := x) (fun K hK => ?_) K hK
    have h2 := h K hK
    unfold AfE at h2
    simp only [hv, ht, if_true] at h2
    exact h2
   ·rw [if_neg ht] at h1 ⊢; exact h1
  ·exact h1.elim
/-- What looks at slots alone is done at any time: nobody else writes there; who writes what it looks at stands ahead of it, or waits for it. -/
def Ky (Ss : List Nat) (m : List Nat) (l : List VO) (nA i : Nat) : Bool := match l[i]? with
 | some ⟨some d, .p o, g⟩ => decide (i < nA) && (noH o || ((List.range l.length).all fun j => decide (j < nA) || (m.getD j 0).testBit i || (match l[j]? with | some u => AbX Ss o u.op | none => true))) && !(VO.mk (some d) (.p o) g).rd.contains d &&
   (List.range l.length).all fun j => j == i || (match l[j]? with | some u => (match u.dst with | some d' => d' != d && (!(VO.mk (some d) (.p o) g).rd.contains d' || decide (j < i) || (decide (nA ≤ j) && (m.getD j 0).testBit i)) | none => true) | none => true)
 | _ => false
theorem CV {Ss : List Nat} {m : List Nat} {l : List VO} {nA i : Nat} (h : Ky Ss m l nA i = true) : ∃ d o g, l[i]? = some ⟨some d, .p o, g⟩ ∧ i < nA ∧ (∀ (j : Nat) u, nA ≤ j → l[j]? = some u → noH o = true ∨ (m.getD j 0).testBit i = true ∨ AbX Ss o u.op = true) ∧ ¬ d ∈ (VO.mk (some d) (.p o) g).rd ∧ ∀ (j : Nat) u d', l[j]? = some u → j ≠ i → u.dst = some d' → d' ≠ d ∧ (¬ d' ∈ (VO.mk (some d) (.p o) g).rd ∨ j < i ∨ (nA ≤ j ∧ (m.getD j 0).testBit i = true)) := by
 unfold Ky at h
 split at h
 ·rename_i d o g hi
  simp only [Bool.and_eq_true, decide_eq_true_eq, List.all_eq_true, List.mem_range, Bool.or_eq_true, beq_iff_eq, Bool.not_eq_true', ← Bool.not_eq_true, List.contains_iff_mem] at h
  obtain ⟨⟨⟨h1, h2⟩, h3⟩, h4⟩ := h
  refine ⟨d, o, g, hi, h1, fun j u hnj hj => ?_, h3, fun j u d' hj hne hu => ?_⟩
  ·rcases h2 with h2 | h5
   ·exact .inl h2
   ·have hjl : j < l.length := (List.getElem?_eq_some_iff.1 hj).1
    have h6 := h5 j hjl
    rw [hj] at h6
    rcases h6 with (h6 | h6) | h6
    ·omega
    ·exact .inr (.inl h6)
    ·exact .inr (.inr h6)
  have hjl : j < l.length := (List.getElem?_eq_some_iff.1 hj).1
  have h5 := (h4 j hjl).resolve_left hne
  rw [hj] at h5
  simp only [hu] at h5
  simpa [or_assoc] using h5
 ·cases h
/-- What is made out of constants alone: what it holds; a pointer to it (none), or a slice of so many elements. -/
def Z9 : SOp → Option (TV × Option (Nat × Nat))
 | .alloc z => some (z, none)
 | .mks k bytes z (.c (.int _ l)) (.c (.int _ c)) => if l = c ∧ AC z = k then some (.arr c.toNat k (List.replicate c.toNat z), some (k, c.toNat)) else none
 | _ => none
def mkT (q : Option (Nat × Nat)) (id : Nat) : TV := match q with
 | none => .op id 0 []
 | some (k, n) => .os k id 0 [] 0 n n
def Ae1 (q : Option (Nat × Nat)) (b : Nat) : Value := match q with
 | none => .pointer (some ⟨b, 0, none⟩)
 | some (_, n) => .slice (some ⟨b, 0, none⟩) n n
/-- It can be made. -/
def Ae5 : SOp → Bool
 | .mks _ bytes _ _ (.c (.int _ c)) => decide (0 ≤ c ∧ (bytes : Int) * c ≤ 281474976710656 ∧ c ≤ 9223372036854775807)
 | _ => true
theorem AlB {P : Program} {so : SOp} {z : TV} {q : Option (Nat × Nat)} {e : Env} {H : List Ob} {K : TV → List Ob → Prop} (hq : Z9 so = some (z, q)) (h : vop P (.s so) e H K) : K (mkT q H.length) (H ++ [.obj 0 z]) := by
 cases so with
 | alloc z0 => simp only [Z9, Option.some.injEq, Prod.mk.injEq] at hq; obtain ⟨rfl, rfl⟩ := hq; exact h
 | mks k bytes z0 x y =>
  have h' : sop P (.mks k bytes z0 x y) e H K := h
  unfold Z9 at hq
  split at hq
  ·rename_i so' _ he; cases he
  ·rename_i k' b' z' kl l kc c he
   cases he
   split at hq
   ·rename_i hl
    simp only [Option.some.injEq, Prod.mk.injEq] at hq
    obtain ⟨rfl, rfl⟩ := hq
    obtain ⟨rfl, _⟩ := hl
    simp only [sop, Opd.ev] at h'
    exact h'.2
   ·cases hq
  ·cases hq
 | _ => simp [Z9] at hq
theorem Rep.mkT {q : Option (Nat × Nat)} {β : Nat → Nat → Option (Nat × Nat)} {H : List Ob} {F : Nat → Prop} {w : World} {z : TV} {b : Nat} {vs : List Value} {t : TypeId} (hq : ∀ k n, q = some (k, n) → AC z = n * k ∧ n ≤ 9223372036854775807) (hz : Aj ⟨upd β H.length 0 (some (b, 0)), H ++ [.obj 0 z], F⟩ w z vs) (hb : w.heap[b]? = some (.cells vs.toArray t (0, 0))) :
  Rep ⟨upd β H.length 0 (some (b, 0)), H ++ [.obj 0 z], F⟩ w (mkT q H.length) (Ae1 q b) := by
 cases q with
 | none => exact Rep.mk_op (Gn _ _ _ _ _ (Nat.le_refl _)) AU rfl
 | some kn =>
  obtain ⟨k, n⟩ := kn
  obtain ⟨h1, h2⟩ := hq k n rfl
  refine Rep.of1 ?_ (by simp [Go.Proofs.YtingoaihnlhiaaaDoor.mkT]) (by simp [Go.Proofs.YtingoaihnlhiaaaDoor.mkT])
  unfold Go.Proofs.YtingoaihnlhiaaaDoor.mkT
  rw [Aj]
  refine ⟨Gn _ _ _ _ _ (Nat.le_refl _), .inr ⟨b, 0, n, t, vs.length, AU, by simp [Ae1, EQ], Nat.le_refl _, h2, ?_, ?_, Nat.le_refl _⟩⟩
  ·simp only [World.shape?, hb, List.size_toArray]
  ·rw [hz.length, h1]; simp [EQ]
theorem AeL {so : SOp} {z : TV} {q : Option (Nat × Nat)} (hq : Z9 so = some (z, q)) (hf : Ae5 so = true) : ∀ k n, q = some (k, n) → AC z = n * k ∧ n ≤ 9223372036854775807 := by
 intro k n hk
 subst hk
 unfold Z9 at hq
 split at hq
 ·simp at hq
 ·rename_i k' b' z' kl l kc c
  split at hq
  ·simp only [Option.some.injEq, Prod.mk.injEq] at hq
   obtain ⟨rfl, rfl, rfl⟩ := hq
   simp only [Ae5, decide_eq_true_eq] at hf
   exact ⟨rfl, by omega⟩
  ·cases hq
 ·cases hq
theorem Amm {so : SOp} {z : TV} {q : Option (Nat × Nat)} {d : Option Nat} (hq : Z9 so = some (z, q)) : (VO.mk d (.s so) none).rd = [] := by
 unfold Z9 at hq
 split at hq
 ·simp [VO.rd, SOp.rd]
 ·simp [VO.rd, SOp.rd, Opd.rd]
 ·cases hq
/-- A new object may be made ahead of its turn: nobody else writes its slot, who looks at that waits for it. -/
def EZ (m : List Nat) (l : List VO) (nA i : Nat) : Bool := match l[i]? with
 | some ⟨some d, .s so, none⟩ => (Z9 so).isSome && Ae5 so && decide (nA ≤ i) &&
   (List.range l.length).all fun j => j == i || (match l[j]? with | some u => u.dst != some d && (!u.rd.contains d || (m.getD j 0).testBit i) | none => true)
 | _ => false
theorem BH {m : List Nat} {l : List VO} {nA i : Nat} (h : EZ m l nA i = true) : ∃ d so z q, l[i]? = some ⟨some d, .s so, none⟩ ∧ Z9 so = some (z, q) ∧ Ae5 so = true ∧ nA ≤ i ∧ ∀ (j : Nat) u, l[j]? = some u → j ≠ i → u.dst ≠ some d ∧ (d ∈ u.rd → (m.getD j 0).testBit i = true) := by
 unfold EZ at h
 split at h
 ·rename_i d so hi
  simp only [Bool.and_eq_true, decide_eq_true_eq, List.all_eq_true, List.mem_range, Bool.or_eq_true, beq_iff_eq, Option.isSome_iff_exists] at h
  obtain ⟨⟨⟨⟨⟨z, q⟩, h1⟩, h0⟩, h2⟩, h3⟩ := h
  refine ⟨d, so, z, q, hi, h1, h0, h2, fun j u hj hne => ?_⟩
  have hjl : j < l.length := (List.getElem?_eq_some_iff.1 hj).1
  have h5 := (h3 j hjl).resolve_left hne
  rw [hj] at h5
  simp only [Bool.and_eq_true, bne_iff_ne, ne_eq, Bool.or_eq_true, Bool.not_eq_true', ← Bool.not_eq_true, List.contains_iff_mem] at h5
  exact ⟨h5.1, fun hd => h5.2.resolve_left fun hn => hn hd⟩
 ·cases h

/-- What copies a slot may be done ahead of its turn: nobody else writes there, who looks at that waits for it, and who writes what is copied stands ahead of it. -/
def EO (m : List Nat) (l : List VO) (nA j : Nat) : Bool := match l[j]? with
 | some ⟨some d, .p (.mov (.t t)), none⟩ => decide (nA ≤ j) && (d != t) &&
   (List.range l.length).all fun k => k == j || (match l[k]? with | some u => u.dst != some d && (!u.rd.contains d || (m.getD k 0).testBit j) && (u.dst != some t || (m.getD j 0).testBit k) | none => true)
 | _ => false
theorem DL {m : List Nat} {l : List VO} {nA j : Nat} (h : EO m l nA j = true) : ∃ d t, nA ≤ j ∧ l[j]? = some ⟨some d, .p (.mov (.t t)), none⟩ ∧ d ≠ t ∧ (∀ (k : Nat) u, l[k]? = some u → k ≠ j → u.dst = some t → (m.getD j 0).testBit k = true) ∧ ∀ (k : Nat) u, l[k]? = some u → k ≠ j → u.dst ≠ some d ∧ (d ∈ u.rd → (m.getD k 0).testBit j = true) := by
 unfold EO at h
 split at h
 ·rename_i d t hj
  simp only [Bool.and_eq_true, decide_eq_true_eq, bne_iff_ne, ne_eq, List.mem_range, List.all_eq_true, Bool.or_eq_true, beq_iff_eq] at h
  obtain ⟨⟨h1, h2⟩, h7⟩ := h
  refine ⟨d, t, h1, hj, h2, fun k u hk hne hd => ?_, fun k u hk hne => ?_⟩
  ·have hkl : k < l.length := (List.getElem?_eq_some_iff.1 hk).1
   have h8 := (h7 k hkl).resolve_left hne
   rw [hk] at h8
   simp only [Bool.and_eq_true, bne_iff_ne, ne_eq, Bool.or_eq_true] at h8
   exact h8.2.resolve_left fun hn => hn hd
  ·have hkl : k < l.length := (List.getElem?_eq_some_iff.1 hk).1
   have h8 := (h7 k hkl).resolve_left hne
   rw [hk] at h8
   simp only [Bool.and_eq_true, bne_iff_ne, ne_eq, Bool.or_eq_true, Bool.not_eq_true', ← Bool.not_eq_true, List.contains_iff_mem] at h8
   exact ⟨h8.1.1, fun hd => h8.1.2.resolve_left fun hn => hn hd⟩
 ·cases h
def NE (m : List Nat) (l : List VO) (nA i : Nat) : Bool := EZ m l nA i || EO m l nA i
theorem XW {m : List Nat} {l : List VO} {nA i : Nat} (h : NE m l nA i = true) : ∃ d op, l[i]? = some ⟨some d, op, none⟩ ∧ nA ≤ i ∧ ∀ (j : Nat) u, l[j]? = some u → j ≠ i → u.dst ≠ some d ∧ (d ∈ u.rd → (m.getD j 0).testBit i = true) := by
 unfold NE at h
 rw [Bool.or_eq_true] at h
 rcases h with h | h
 ·obtain ⟨d, so, z, q, hz, _, _, hn, h'⟩ := BH h
  exact ⟨d, _, hz, hn, h'⟩
 ·obtain ⟨d, t, h0, hz, _, _, h'⟩ := DL h
  exact ⟨d, _, hz, h0, h'⟩

/-- The checks: all that stands ahead has a smaller number; the operations from nA on wait for all that have smaller numbers; of the others none is written twice, and what one reads of another one stands ahead of it, or is written behind. -/
def FK (Ss : List Nat) (ops : List Oper) (l : List VO) (nA : Nat) : Bool :=
 let m := cls ops
 let n := ops.length
 decide (nA ≤ n) &&
 ((List.range n).all fun i => (match ops[i]? with | some o => (Un o).all (· < i) | none => false)) &&
 ((List.range n).all fun j => decide (j < nA) || NE m l nA j || (List.range j).all fun k => (m.getD j 0).testBit k || (Ky Ss m l nA k && (match l[j]?, l[k]? with
  | some v, some u => (match u.dst with | some d => !v.rd.contains d | none => false)
  | _, _ => false))) &&
 ((List.range nA).all fun i => (match l[i]? with
  | some v => (List.range nA).all fun j => (match l[j]? with
   | some u => (match u.dst with
    | some d => (if v.rd.contains d then ((m.getD i 0).testBit j || (m.getD j 0).testBit i) else true) && (i == j || v.dst != some d)
    | none => true)
   | none => false)
  | none => false))

/-- It changes no object. -/
def AbA (P : Program) (o : VOp) (e : Env) (H : List Ob) (k : TV → Prop) : Prop := match o with
 | .p o => pop o e H k
 | .s (.call f args) => (∀ x ∈ args, BP (x.ev e) = false) ∧ ∃ x, Aq P f (args.map (·.ev e)) H (fun y H' => y = x ∧ H' = H) ∧ k x
 | _ => False
def vq (P : Program) : List VO → (Env → Prop) → Env → List Ob → Prop
 | [], K, e, H => K e
 | o :: r, K, e, H => match o.g with
  | none => AbA P o.op e H fun x => vq P r K (Zf e o.dst x) H
  | some (s, b) => match get e s with
   | .val v => if isB v = some b then AbA P o.op e H fun x => vq P r K (Zf e o.dst x) H else vq P r K (Zf e o.dst (.val undef)) H
   | _ => False

/-- The operation yields x, by what the slots hold. -/
def Qt (P : Program) (o : VOp) (e : Env) (H : List Ob) (x : TV) : Prop := match o with
 | .p o => ∀ K : TV → Prop, K x → pop o e H K
 | .s (.call f args) => (∀ y ∈ args, BP (y.ev e) = false) ∧ Aq P f (args.map (·.ev e)) H fun y H' => y = x ∧ H' = H
 | _ => False
def Okq (P : Program) (o : VO) (e : Env) (H : List Ob) (x : TV) : Prop := match o.g with
 | none => Qt P o.op e H x
 | some (s, b) => match get e s with
  | .val v => if isB v = some b then Qt P o.op e H x else x = .val undef
  | _ => False

theorem Aed {P : Program} {o : VOp} {e e' : Env} {H : List Ob} {x : TV} (h : ∀ s ∈ (match o with | .p o => o.rd | .s o => o.rd), get e s = get e' s) (hq : Qt P o e H x) : Qt P o e' H x := by
 cases o with
 | p o => exact fun K hK => by rw [← Ab1 h]; exact hq K hK
 | s o =>
  cases o with
  | call f args =>
   obtain ⟨h1, h2⟩ := hq
   have hm := DJ (xs := args) h
   refine ⟨fun y hy => ?_, ?_⟩
   ·rw [← AB (e := e) (e' := e') fun s hs => h s (List.mem_flatMap.2 ⟨y, hy, hs⟩)]; exact h1 y hy
   ·rw [← hm]; exact h2
  | _ => exact hq
theorem AcJ {P : Program} {o : VO} {e e' : Env} {H : List Ob} {x : TV} (h : ∀ s ∈ o.rd, get e s = get e' s) (hq : Okq P o e H x) : Okq P o e' H x := by
 have h1 : ∀ s ∈ (match o.op with | .p o => o.rd | .s o => o.rd), get e s = get e' s := fun s hs => h s (List.mem_append_left _ hs)
 unfold Okq at hq ⊢
 cases hg : o.g with
 | none => rw [hg] at hq; exact Aed h1 hq
 | some sb =>
  obtain ⟨s, b⟩ := sb
  rw [hg] at hq
  have h2 : get e s = get e' s := h s (List.mem_append_right _ (by rw [hg]; simp))
  simp only [h2] at hq ⊢
  split at hq
  ·split at hq
   ·rename_i ht; rw [if_pos ht]; exact Aed h1 hq
   ·rename_i ht; rw [if_neg ht]; exact hq
  ·exact hq.elim

theorem Ac3 {P : Program} {d : Option Nat} {g : Option (Nat × Bool)} {o : POp} {e : Env} {H : List Ob} {x : TV} (h : ∀ K : TV → Prop, K x → AfE g o e H K) : Okq P ⟨d, .p o, g⟩ e H x := by
 cases g with
 | none => exact h
 | some sb =>
  obtain ⟨s, b⟩ := sb
  have h1 := h (fun y => y = x) rfl
  unfold AfE at h1
  unfold Okq
  simp only at h1 ⊢
  split at h1
  ·rename_i v hv
   by_cases ht : isB v = some b
   ·simp only [hv, ht, if_true]
    intro K hK
    have h2 := h K hK
    unfold AfE at h2
    simp only [hv, ht, if_true] at h2
    exact h2
   ·rw [if_neg ht] at h1
    simp only [hv, ht, if_false]
    exact h1.symm
  ·exact h1.elim
theorem Adr {P : Program} {d : Option Nat} {g : Option (Nat × Bool)} {o : POp} {e : Env} {H : List Ob} {x : TV} (h : Okq P ⟨d, .p o, g⟩ e H x) : ∀ K : TV → Prop, K x → AfE g o e H K := by
 intro K hK
 cases g with
 | none => exact h K hK
 | some sb =>
  obtain ⟨s, b⟩ := sb
  unfold Okq at h
  unfold AfE
  simp only at h ⊢
  split at h
  ·rename_i v hv
   by_cases ht : isB v = some b
   ·simp only [hv, ht, if_true] at h ⊢
    exact h K hK
   ·simp only [hv, ht, if_false] at h ⊢
    rw [← h]; exact hK
  ·exact h.elim

def J7 (e : Env) : List VO → List TV → Env
 | o :: r, x :: xs => J7 (Zf e o.dst x) r xs
 | _, _ => e

theorem Acn {P : Program} {o : VOp} {e : Env} {H : List Ob} {k : TV → Prop} (h : AbA P o e H k) : ∃ x, Qt P o e H x ∧ k x := by
 cases o with
 | p o => exact AgR h
 | s o =>
  cases o with
  | call f args => obtain ⟨h1, x, h2, h3⟩ := h; exact ⟨x, ⟨h1, h2⟩, h3⟩
  | _ => exact h.elim

/-- The results of a run in the text's order. -/
theorem Aly {P : Program} {H : List Ob} : ∀ {l : List VO} {K : Env → Prop} {e : Env}, vq P l K e H → ∃ xs : List TV, xs.length = l.length ∧ K (J7 e l xs) ∧
  ∀ (i : Nat) o x, l[i]? = some o → xs[i]? = some x → Okq P o (J7 e (l.take i) (xs.take i)) H x
 | [], K, e, h => ⟨[], rfl, h, by simp⟩
 | o :: r, K, e, h => by
  have go : ∀ x, vq P r K (Zf e o.dst x) H → Okq P o e H x → ∃ xs : List TV, xs.length = (o :: r).length ∧ K (J7 e (o :: r) xs) ∧ ∀ (i : Nat) o' x, (o :: r)[i]? = some o' → xs[i]? = some x → Okq P o' (J7 e ((o :: r).take i) (xs.take i)) H x := fun x h1 h2 => by
   obtain ⟨xs, k1, k2, k3⟩ := Aly h1
   refine ⟨x :: xs, by simp [k1], k2, ?_⟩
   intro i o' y ho hx
   cases i with
   | zero => simp at ho hx; subst ho; subst hx; exact h2
   | succ i => exact k3 i o' y (by simpa using ho) (by simpa using hx)
  rw [vq] at h
  cases hg : o.g with
  | none =>
   rw [hg] at h
   obtain ⟨x, h1, h2⟩ := Acn h
   exact go x h2 (by unfold Okq; rw [hg]; exact h1)
  | some sb =>
   obtain ⟨s, b⟩ := sb
   rw [hg] at h
   simp only at h
   split at h
   ·rename_i t ht
    by_cases htb : isB t = some b
    ·rw [if_pos htb] at h
     obtain ⟨x, h1, h2⟩ := Acn h
     exact go x h2 (by unfold Okq; rw [hg]; simp only [ht, htb, if_true]; exact h1)
    ·rw [if_neg htb] at h
     exact go (.val undef) h (by unfold Okq; rw [hg]; simp only [ht, htb, if_false])
   ·exact h.elim

/-- What a slot holds behind. -/
theorem Dh {s : Nat} : ∀ {l : List VO} {xs : List TV} {e : Env}, (∀ (j : Nat) o, l[j]? = some o → o.dst ≠ some s) → get (J7 e l xs) s = get e s
 | [], xs, e, _ => by cases xs <;> rfl
 | o :: r, [], e, _ => rfl
 | o :: r, x :: xs, e, h => by
  rw [J7, Dh fun j o' ho => h (j + 1) o' (by simpa using ho)]
  have := h 0 o rfl
  cases hd : o.dst with
  | none => rfl
  | some d =>
   rw [hd] at this
   show get ((d, x) :: e) s = _
   rw [BK, if_neg (fun e => this (by rw [e]))]
theorem Ew {s : Nat} : ∀ {l : List VO} {xs : List TV} {e : Env} {i : Nat} {o : VO} {x : TV}, l[i]? = some o → xs[i]? = some x → o.dst = some s → (∀ (j : Nat) o', l[j]? = some o' → j ≠ i → o'.dst ≠ some s) → get (J7 e l xs) s = x
 | [], xs, e, i, o, x, h, _, _, _ => by simp at h
 | o' :: r, [], e, i, o, x, _, h, _, _ => by simp at h
 | o' :: r, y :: xs, e, i, o, x, ho, hx, hd, hu => by
  rw [J7]
  cases i with
  | zero =>
   simp at ho hx; subst ho; subst hx
   rw [Dh fun j o2 ho2 => hu (j + 1) o2 (by simpa using ho2) (by omega), hd]
   show get ((s, y) :: e) s = y
   rw [BK, if_pos rfl]
  | succ i => exact Ew (by simpa using ho) (by simpa using hx) hd fun j o2 ho2 hj => hu (j + 1) o2 (by simpa using ho2) (by omega)

section sound
variable {P : Program} {N : Nat} {D : List Deferred} {ro : Option Nat} {nn : Nat} {ops : List Oper} {l : List VO} {nA : Nat} {Ss : List Nat} {bz : Bool}

theorem Abp {all : List Oper} : ∀ {os : List Oper} {l : List VO}, trL bz P N all os = some l → l.length = os.length ∧ ∀ (i : Nat) o, os[i]? = some o → ∃ v, l[i]? = some v ∧ trV bz P o.op = some v.op ∧ trG all o.guard = some v.g ∧ v.dst = o.dst ∧ o.dst.all (· < N) = true
 | [], l, h => by simp only [trL, Option.some.injEq] at h; subst h; simp
 | o :: os, l, h => by
  rw [trL] at h
  split at h
  ·rename_i v g r hv hg hr
   split at h
   ·rename_i hd
    cases h
    obtain ⟨h1, h2⟩ := Abp hr
    refine ⟨by simp [h1], fun i o' ho => ?_⟩
    cases i with
    | zero => simp at ho; subst ho; exact ⟨_, rfl, hv, hg, rfl, hd⟩
    | succ i => simpa using h2 i o' (by simpa using ho)
   ·cases h
  ·cases h

/-- The checks, said. -/
structure Chk (Ss : List Nat) (ops : List Oper) (l : List VO) (nA : Nat) : Prop where
 le : nA ≤ ops.length
 lt : ∀ i o, ops[i]? = some o → ∀ p ∈ Un o, p < i
 wait : ∀ j, j < ops.length → nA ≤ j → NE (cls ops) l nA j ≠ true → ∀ k, k < j → ((cls ops).getD j 0).testBit k = true ∨ (Ky Ss (cls ops) l nA k = true ∧ ∀ v u d, l[j]? = some v → l[k]? = some u → u.dst = some d → ¬ d ∈ v.rd)
 read : ∀ i j v u d, i < nA → j < nA → l[i]? = some v → l[j]? = some u → u.dst = some d → d ∈ v.rd → ((cls ops).getD i 0).testBit j = true ∨ ((cls ops).getD j 0).testBit i = true
 once : ∀ i j v u d, i < nA → j < nA → l[i]? = some v → l[j]? = some u → u.dst = some d → v.dst = some d → i = j

theorem Chk.of (h : FK Ss ops l nA = true) : Chk Ss ops l nA := by
 unfold FK at h
 simp only [Bool.and_eq_true, decide_eq_true_eq, List.all_eq_true, List.mem_range, Bool.or_eq_true] at h
 obtain ⟨⟨⟨h1, h2⟩, h3⟩, h4⟩ := h
 refine ⟨h1, fun i o ho p hp => ?_, fun j hj hn he k hk => ?_, fun i j v u d hi hj hv hu hd hr => ?_, fun i j v u d hi hj hv hu hd hv2 => ?_⟩
 ·have hi : i < ops.length := (List.getElem?_eq_some_iff.1 ho).1
  have := h2 i hi
  rw [ho] at this
  simp only [List.all_eq_true, decide_eq_true_eq] at this
  exact this p hp
 ·rcases h3 j hj with (h | h) | h
  ·omega
  ·exact absurd h he
  ·rcases h k hk with h | ⟨h, h'⟩
   ·exact .inl h
   ·refine .inr ⟨h, fun v u d hv hu hd => ?_⟩
    rw [hv, hu] at h'
    simp only [hd] at h'
    simpa using h'
 ·have := h4 i hi
  rw [hv] at this
  simp only [List.all_eq_true, List.mem_range] at this
  have := this j hj
  rw [hu] at this
  simp only [hd, Bool.and_eq_true] at this
  have hc : v.rd.contains d = true := by simpa using hr
  rw [if_pos hc] at this
  simpa using this.1
 ·have := h4 i hi
  rw [hv] at this
  simp only [List.all_eq_true, List.mem_range] at this
  have := this j hj
  rw [hu] at this
  simp only [hd, Bool.and_eq_true, Bool.or_eq_true, beq_iff_eq, bne_iff_ne] at this
  rcases this.2 with h | h
  ·exact h
  ·exact absurd hv2 h

theorem H7 {ops : List Oper} {L : Array Bool} {i : Nat} (h : i ∈ Region.ready .any ops.toArray L) : ∃ o, ops[i]? = some o ∧ L.getD i true = false ∧ ∀ p ∈ Un o, L.getD p false = true := by
 unfold Region.ready at h
 simp only [List.mem_filter, List.mem_range, Bool.and_eq_true, Bool.not_eq_true'] at h
 obtain ⟨h1, h2, h3⟩ := h
 have hi : i < ops.length := by simpa using h1
 refine ⟨ops[i], by simp [hi], h2, fun p hp => ?_⟩
 simp only [List.getElem?_toArray, List.getElem?_eq_getElem hi, Option.map_some, Option.getD_some, Array.all_eq_true] at h3
 unfold Un at hp
 obtain ⟨e, he, rfl⟩ := List.mem_map.1 hp
 obtain ⟨he1, he2⟩ := List.mem_filter.1 he
 obtain ⟨k, hk, hke⟩ := List.mem_iff_getElem.1 he1
 have := h3 k (by simpa using hk)
 have hke' : ops[i].after[k]'(by simpa using hk) = e := by simpa using hke
 rw [hke', he2] at this
 simpa using this
theorem Abq {ops : List Oper} {L : Array Bool} {i : Nat} {o : Oper} (ho : ops[i]? = some o) (h2 : L.getD i true = false) (h3 : ∀ p ∈ Un o, L.getD p false = true) : i ∈ Region.ready .any ops.toArray L := by
 have hi : i < ops.length := (List.getElem?_eq_some_iff.1 ho).1
 unfold Region.ready
 simp only [List.mem_filter, List.mem_range, Bool.and_eq_true, Bool.not_eq_true']
 refine ⟨by simpa using hi, h2, ?_⟩
 simp only [List.getElem?_toArray, ho, Option.map_some, Option.getD_some, Array.all_eq_true]
 intro k hk
 rw [Bool.or_eq_true]
 by_cases hb : Region.binds .any o.after[k] = true
 ·right
  refine h3 _ ?_
  unfold Un
  exact List.mem_map.2 ⟨o.after[k], List.mem_filter.2 ⟨by simp, hb⟩, rfl⟩
 ·left; simpa using hb

/-- What has been done. -/
structure AeJ (ops : List Oper) (L : Array Bool) : Prop where
 size : L.size = ops.length
 closed : Ad3 ops fun i => L.getD i false = true

theorem AeJ.set {L : Array Bool} (h : AeJ ops L) {i : Nat} (hr : i ∈ Region.ready .any ops.toArray L) : AeJ ops (L.setIfInBounds i true) := by
 obtain ⟨o, ho, h1, h2⟩ := H7 hr
 have hi : i < L.size := by rw [h.size]; exact (List.getElem?_eq_some_iff.1 ho).1
 have hmono : ∀ p, L.getD p false = true → (L.setIfInBounds i true).getD p false = true := by
  intro p hp
  by_cases hpi : i = p
  ·subst hpi; simp [hi]
  ·rw [Array.getD_eq_getD_getElem?, Array.getElem?_setIfInBounds_ne hpi, ← Array.getD_eq_getD_getElem?]; exact hp
 refine ⟨by simp [h.size], fun j o' ho' hj p hp => ?_⟩
 by_cases hji : i = j
 ·subst hji
  rw [ho] at ho'; cases ho'
  exact hmono p (h2 p hp)
 ·refine hmono p (h.closed j o' ho' ?_ p hp)
  have hj' : (L.setIfInBounds i true).getD j false = true := hj
  rw [Array.getD_eq_getD_getElem?, Array.getElem?_setIfInBounds_ne hji, ← Array.getD_eq_getD_getElem?] at hj'
  exact hj'

theorem Na (hc : Chk Ss ops l nA) {L : Array Bool} (hd : AeJ ops L) {i : Nat} (hr : i ∈ Region.ready .any ops.toArray L) {k : Nat} (hk : ((cls ops).getD i 0).testBit k = true) : L.getD k false = true := by
 obtain ⟨o, ho, _, h2⟩ := H7 hr
 have hi : i < (cls ops).length := by rw [Ub]; exact (List.getElem?_eq_some_iff.1 ho).1
 have hm : (cls ops)[i]? = some ((cls ops).getD i 0) := by
  rw [List.getD_eq_getElem?_getD, List.getElem?_eq_getElem hi]; rfl
 exact AdY hm ho hd.closed h2 hk

theorem Xq (hc : Chk Ss ops l nA) {i k : Nat} (hi : i < ops.length) (hk : ((cls ops).getD i 0).testBit k = true) : k < i := by
 have hi' : i < (cls ops).length := by rw [Ub]; exact hi
 have hm : (cls ops)[i]? = some ((cls ops).getD i 0) := by
  rw [List.getD_eq_getElem?_getD, List.getElem?_eq_getElem hi']; rfl
 exact AdY (S := fun k => k < i) hm (List.getElem?_eq_getElem hi) (fun j o ho hj p hp => Nat.lt_trans (hc.lt j o ho p hp) hj) (hc.lt i _ (List.getElem?_eq_getElem hi)) hk

/-- How many are not done. -/
def VQ (ops : List Oper) (L : Array Bool) : Nat := ((List.range ops.length).filter fun i => !L.getD i false).length
theorem AaQ {L : Array Bool} (hd : AeJ ops L) {i : Nat} (hr : i ∈ Region.ready .any ops.toArray L) : VQ ops (L.setIfInBounds i true) + 1 = VQ ops L := by
 obtain ⟨o, ho, h1, h2⟩ := H7 hr
 have hi : i < ops.length := (List.getElem?_eq_some_iff.1 ho).1
 have hiL : i < L.size := by rw [hd.size]; exact hi
 have h1' : L.getD i false = false := by
  rw [Array.getD_eq_getD_getElem?, Array.getElem?_eq_getElem hiL] at h1 ⊢; simpa using h1
 have key : ∀ (r : List Nat), r.Nodup → i ∈ r → (r.filter fun j => !(L.setIfInBounds i true).getD j false).length + 1 = (r.filter fun j => !L.getD j false).length := by
  intro r
  induction r with
  | nil => intro _ h; simp at h
  | cons j r ih =>
   intro hn hm
   rw [List.nodup_cons] at hn
   by_cases hji : i = j
   ·subst hji
    have e1 : (L.setIfInBounds i true).getD i false = true := by simp [hiL]
    have e2 : r.filter (fun j => !(L.setIfInBounds i true).getD j false) = r.filter fun j => !L.getD j false := by
     apply List.filter_congr
     intro x hx
     have : i ≠ x := fun e => hn.1 (e ▸ hx)
     rw [Array.getD_eq_getD_getElem?, Array.getElem?_setIfInBounds_ne this, ← Array.getD_eq_getD_getElem?]
    rw [List.filter_cons, List.filter_cons, e1, e2, h1']; simp
   ·have e1 : (L.setIfInBounds i true).getD j false = L.getD j false := by
     rw [Array.getD_eq_getD_getElem?, Array.getElem?_setIfInBounds_ne hji, ← Array.getD_eq_getD_getElem?]
    have := ih hn.2 ((List.mem_cons.1 hm).resolve_left hji)
    rw [List.filter_cons, List.filter_cons, e1]
    split
    ·rw [List.length_cons, List.length_cons]; omega
    ·exact this
 exact key _ List.nodup_range (by simpa using hi)

theorem Zi (hc : Chk Ss ops l nA) {L : Array Bool} (hd : AeJ ops L) (h0 : Region.ready .any ops.toArray L = []) : ∀ i, i < ops.length → L.getD i false = true := by
 intro i
 induction i using Nat.strongRecOn with
 | _ i ih =>
  intro hi
  by_cases h : L.getD i false = true
  ·exact h
  ·exfalso
   have hiL : i < L.size := by rw [hd.size]; exact hi
   have hr := Abq (ops := ops) (L := L) (List.getElem?_eq_getElem hi) (by
    rw [Array.getD_eq_getD_getElem?, Array.getElem?_eq_getElem hiL] at h ⊢; simpa using h) fun p hp => ih p (hc.lt i _ (List.getElem?_eq_getElem hi) p hp) (Nat.lt_trans (hc.lt i _ (List.getElem?_eq_getElem hi) p hp) hi)
   rw [h0] at hr; simp at hr

/-- One operation, by what its slots hold. -/
theorem Y8 {all : List Oper} {o : Oper} {v : VO} (hv : trV bz P o.op = some v.op) (hg : trG all o.guard = some v.g) {β : Nat → Nat → Option (Nat × Nat)} {H : List Ob} {F : Nat → Prop} {w : World} {a : Act} {e : Env} (hs : Sim ⟨β, H, F⟩ w) (he : A8 ⟨β, H, F⟩ w e a) {x : TV} (h : Okq P v e H x)
  {KK : Act → World → Prop} {Q : Exit → Act → World → Prop} {i : Nat} (hi : all[i]? = some o)
  (hk : ∀ β' F' w' u, Sim ⟨β', H, F'⟩ w' → AO ⟨β, H, F⟩ w ⟨β', H, F'⟩ w' → Rep ⟨β', H, F'⟩ w' x u → KK (a.put o.dst u) w') : wpOpIn (fz ro) nn P all.toArray Q i KK a w := by
 have go : Qt P v.op e H x → o.wpIn (fz ro) nn P a w KK Q := fun hq => by
  have hvop : vop P v.op e H fun y H' => y = x ∧ H' = H := by
   obtain ⟨dst, op, g⟩ := v
   cases op with
   | p po =>
    show pop po e H fun y => y = x ∧ H = H
    exact hq _ ⟨rfl, rfl⟩
   | s so =>
    cases so with
    | call f args => exact hq
    | _ => exact hq.elim
  refine Ze hs he hv hvop o KK Q rfl (Ael hv) ?_ ro nn
  rintro y H' β' F' w' u ⟨rfl, rfl⟩ k1 k2 k3
  exact hk β' F' w' u k1 k2 k3
 unfold wpOpIn
 simp only [List.getElem?_toArray, hi]
 unfold Okq at h
 cases hog : o.guard with
 | none =>
  rw [hog] at hg
  simp only [trG, Option.some.injEq] at hg
  rw [← hg] at h
  have : Region.wanted o (yielded all.toArray a.tmps) = true := by simp [Region.wanted, hog]
  rw [if_pos this]
  exact (go h)
 | some jb =>
  obtain ⟨j, b⟩ := jb
  rw [hog] at hg
  simp only [trG] at hg
  split at hg
  ·rename_i s hj
   simp only [Option.some.injEq] at hg
   rw [← hg] at h
   simp only at h
   split at h
   ·rename_i t hgs
    have hy : yielded all.toArray a.tmps j = isB t := by
     have h9 := he.1 s
     rw [hgs, Rep.val] at h9
     rw [Yx (ops := all.toArray) (a := a) (by simpa using hj), h9]
    by_cases htb : isB t = some b
    ·have : Region.wanted o (yielded all.toArray a.tmps) = true := by simp [Region.wanted, hog, hy, htb]
     rw [if_pos this]
     rw [if_pos htb] at h
     exact (go h)
    ·have : ¬ (Region.wanted o (yielded all.toArray a.tmps) = true) := by simp [Region.wanted, hog, hy, htb]
     rw [if_neg this]
     rw [if_neg htb] at h
     subst h
     exact ⟨fun _ _ => trivial, hk β F w undef hs (AO.refl _ _) Rep.of_val⟩
   ·exact h.elim
  ·cases hg

theorem D8 {a : Act} {dst : Option Nat} {u : Value} {s : Nat} (h : dst ≠ some s) : (a.put dst u).tmps.getD s undef = a.tmps.getD s undef := by
 cases dst with
 | none => rfl
 | some d =>
  have : d ≠ s := fun e => h (by rw [e])
  show (a.tmps.setIfInBounds d u).getD s undef = _
  simp [Array.getElem?_setIfInBounds_ne this]
theorem Xt {a : Act} {d : Nat} {u : Value} (h : d < a.tmps.size) : (a.put (some d) u).tmps.getD d undef = u := by
 show (a.tmps.setIfInBounds d u).getD d undef = u
 simp [h]
theorem Uc {a : Act} {dst : Option Nat} {u : Value} : (a.put dst u).tmps.size = a.tmps.size := by cases dst <;> simp [Act.put]
theorem KZ {a : Act} {dst : Option Nat} {u : Value} : (a.put dst u).defers = a.defers := by cases dst <;> rfl
theorem BO {e : Env} {dst : Option Nat} {x : TV} {s : Nat} (h : dst ≠ some s) : get (Zf e dst x) s = get e s := by
 cases dst with
 | none => rfl
 | some d =>
  show get ((d, x) :: e) s = _
  rw [BK, if_neg (fun e => h (by rw [e]))]
theorem P9 {e : Env} {d : Nat} {x : TV} : get (Zf e (some d) x) d = x := by
 show get ((d, x) :: e) d = x
 rw [BK, if_pos rfl]



theorem Sim.extra {c : Ctx} {w : World} (hs : Sim c w) (o : Obj) : Sim c (w.alloc o) ∧ AO c w c (w.alloc o) := by
 have hm : I4 c w c (w.alloc o) := ⟨fun b hb => ⟨hb, DI w o (hs.lt b hb)⟩, fun _ _ h => ⟨h, rfl⟩, fun b hb => BD (DI w o hb)⟩
 refine ⟨⟨fun id ob ho => ZW.mono hm (Ctx.has_of ho) (fun hl b off hb => DI w o (hs.own_lt (Ctx.own_of ho hl hb))) (hs.ob id ob ho), hs.inj, hs.apart, fun b hb => ?_, hs.glob.keep hm.stay⟩, ⟨rfl, rfl, rfl, by simp, hm.has, hm.shape, fun b hb _ => DI w o hb, fun _ h => h, fun _ _ h => .inl h, fun _ _ h => h⟩⟩
 have h1 := hs.lt b hb
 have h2 : w.heap.size ≤ (w.alloc o).heap.size := by simp
 omega
def NZ (z : TV) (vs : List Value) : Prop := ∀ (c : Ctx) (w : World), Aj c w z vs
theorem Sim.adopt {β : Nat → Nat → Option (Nat × Nat)} {H : List Ob} {F : Nat → Prop} {w : World} (hs : Sim ⟨β, H, F⟩ w) {z : TV} {vs : List Value} {b : Nat} {t : TypeId} (hz : NZ z vs) (hb : w.heap[b]? = some (.cells vs.toArray t (0, 0))) (h1 : ¬ Ctx.own ⟨β, H, F⟩ b) (h2 : ¬ F b) :
  Sim ⟨upd β H.length 0 (some (b, 0)), H ++ [.obj 0 z], F⟩ w ∧ I4 ⟨β, H, F⟩ w ⟨upd β H.length 0 (some (b, 0)), H ++ [.obj 0 z], F⟩ w ∧ ∀ b', Ctx.own ⟨upd β H.length 0 (some (b, 0)), H ++ [.obj 0 z], F⟩ b' → Ctx.own ⟨β, H, F⟩ b' ∨ b' = b := by
 have hm := Aeu hs (.obj 0 z) (some (b, 0)) w (fun _ _ => rfl)
 have hget : ∀ id y, (H ++ [Ob.obj 0 z])[id]? = some y → (id < H.length ∧ H[id]? = some y) ∨ (id = H.length ∧ y = .obj 0 z) := by
  intro id y h
  rcases Nat.lt_trichotomy id H.length with h1 | h1 | h1
  ·exact .inl ⟨h1, by rwa [List.getElem?_append_left h1] at h⟩
  ·subst h1; simp at h; exact .inr ⟨rfl, h.symm⟩
  ·rw [List.getElem?_eq_none (by simp; omega)] at h; cases h
 have hβ : ∀ id y, H[id]? = some y → upd β H.length 0 (some (b, 0)) id y.ver = β id y.ver := fun id y h => (hm.has id y.ver ⟨y, h, Nat.le_refl _⟩).2
 have hown : ∀ b', Ctx.own ⟨upd β H.length 0 (some (b, 0)), H ++ [.obj 0 z], F⟩ b' → Ctx.own ⟨β, H, F⟩ b' ∨ b' = b := by
  rintro b' ⟨id, y, off, h1, h2, h3⟩
  rcases hget id y h1 with ⟨h4, h5⟩ | ⟨rfl, rfl⟩
  ·exact .inl ⟨id, y, off, h5, h2, by show β id y.ver = _; rw [← hβ id y h5]; exact h3⟩
  ·right
   have h3' : upd β H.length 0 (some (b, 0)) H.length 0 = some (b', off) := h3
   rw [AU] at h3'; cases h3'; rfl
 refine ⟨⟨fun id y hy => ?_, fun i j x y b' o1 o2 hx hy hlx hly e1 e2 => ?_, fun b' hb' hF => ?_, hs.lt, hs.glob⟩, hm, hown⟩
 ·rcases hget id y hy with ⟨h4, h5⟩ | ⟨rfl, rfl⟩
  ·exact ZW.mono hm ⟨y, h5, Nat.le_refl _⟩ (fun _ _ _ _ => rfl) (hs.ob id y h5)
  ·exact .inr ⟨b, 0, [], vs, [], t, (0, 0), AU, by simpa using hb, Adc _, rfl, hz _ _⟩
 ·have e1' : upd β H.length 0 (some (b, 0)) i x.ver = some (b', o1) := e1
  have e2' : upd β H.length 0 (some (b, 0)) j y.ver = some (b', o2) := e2
  rcases hget i x hx with ⟨h4, h5⟩ | ⟨rfl, rfl⟩ <;> rcases hget j y hy with ⟨k4, k5⟩ | ⟨rfl, rfl⟩
  ·rw [hβ i x h5] at e1'; rw [hβ j y k5] at e2'
   exact hs.inj i j x y b' o1 o2 h5 k5 hlx hly e1' e2'
  ·exfalso
   have e3 : upd β H.length 0 (some (b, 0)) H.length 0 = some (b', o2) := e2'
   rw [AU] at e3; cases e3
   rw [hβ i x h5] at e1'
   exact h1 ⟨i, x, o1, h5, hlx, e1'⟩
  ·exfalso
   have e3 : upd β H.length 0 (some (b, 0)) H.length 0 = some (b', o1) := e1'
   rw [AU] at e3; cases e3
   rw [hβ j y k5] at e2'
   exact h1 ⟨j, y, o2, k5, hly, e2'⟩
  ·rfl
 ·rcases hown b' hb' with h | h
  ·exact hs.apart b' h hF
  ·subst h; exact h2 hF
theorem AO.adopt {c0 : Ctx} {w0 w : World} {β : Nat → Nat → Option (Nat × Nat)} {H : List Ob} {F : Nat → Prop} (hl : AO c0 w0 ⟨β, H, F⟩ w) {c' : Ctx} {b : Nat} (hb : w0.heap.size ≤ b) (hF : c'.F = F) (hm : I4 ⟨β, H, F⟩ w c' w) (ho : ∀ b', c'.own b' → Ctx.own ⟨β, H, F⟩ b' ∨ b' = b) : AO c0 w0 c' w where
 os := hl.os
 tape := hl.tape
 output := hl.output
 size := hl.size
 has id ver hh := ⟨(hm.has id ver (hl.has id ver hh).1).1, (hm.has id ver (hl.has id ver hh).1).2.trans (hl.has id ver hh).2⟩
 shape := hl.shape
 same := hl.same
 keepF b' hb' := by rw [hF]; exact hl.keepF b' hb'
 oldF b' hlt h := hl.oldF b' hlt (by rw [hF] at h; exact h)
 oldOwn b' hlt h := hl.oldOwn b' hlt ((ho b' h).resolve_right fun e => by omega)

/-- What was made ahead of its turn. -/
def Ags (ops : List Oper) (l : List VO) (nA m : Nat) (L : Array Bool) (w0 : World) (c : Ctx) (w : World) (a : Act) : Prop :=
 ∃ bl : Nat → Nat, (∀ i d so z q, m ≤ i → EZ (cls ops) l nA i = true → L.getD i false = true → l[i]? = some ⟨some d, .s so, none⟩ → Z9 so = some (z, q) →
   a.tmps.getD d undef = Ae1 q (bl i) ∧ (∃ vs t, w.heap[bl i]? = some (.cells vs.toArray t (0, 0)) ∧ NZ z vs) ∧ w0.heap.size ≤ bl i ∧ ¬ c.own (bl i) ∧ ¬ c.F (bl i)) ∧
  ∀ i j, m ≤ i → m ≤ j → EZ (cls ops) l nA i = true → EZ (cls ops) l nA j = true → L.getD i false = true → L.getD j false = true → bl i = bl j → i = j
theorem Ags.empty {ops : List Oper} {l : List VO} {nA m : Nat} {L : Array Bool} {w0 : World} {c : Ctx} {w : World} {a : Act} (h : ∀ i, m ≤ i → EZ (cls ops) l nA i = true → L.getD i false ≠ true) : Ags ops l nA m L w0 c w a :=
 ⟨fun _ => 0, fun i d so z q h1 h2 h3 => absurd h3 (h i h1 h2), fun i j h1 _ h2 _ h3 => absurd h3 (h i h1 h2)⟩
/-- Another operation is done. -/
theorem Ags.step {ops : List Oper} {l : List VO} {nA m m' i0 : Nat} {L : Array Bool} {w0 w w' : World} {c c' : Ctx} {a : Act} {dst : Option Nat} {u : Value} (h : Ags ops l nA m L w0 c w a) (hl : AO c w c' w') (hmm : m ≤ m')
  (hne : ∀ i d so, m' ≤ i → EZ (cls ops) l nA i = true → l[i]? = some ⟨some d, .s so, none⟩ → (L.setIfInBounds i0 true).getD i false = true → dst ≠ some d) (hi0 : m' ≤ i0 → EZ (cls ops) l nA i0 ≠ true) :
  Ags ops l nA m' (L.setIfInBounds i0 true) w0 c' w' (a.put dst u) := by
 obtain ⟨bl, h1, h2⟩ := h
 have hL : ∀ i, m' ≤ i → EZ (cls ops) l nA i = true → (L.setIfInBounds i0 true).getD i false = true → L.getD i false = true := by
  intro i hi he hh
  by_cases e : i0 = i
  ·subst e; exact absurd he (hi0 hi)
  ·rw [Array.getD_eq_getD_getElem?, Array.getElem?_setIfInBounds_ne e, ← Array.getD_eq_getD_getElem?] at hh; exact hh
 refine ⟨bl, fun i d so z q hi he hLi hz hq => ?_, fun i j hi hj he1 he2 hLi hLj e => h2 i j (by omega) (by omega) he1 he2 (hL i hi he1 hLi) (hL j hj he2 hLj) e⟩
 obtain ⟨k1, ⟨vs, t, k2, k3⟩, k4, k5, k6⟩ := h1 i d so z q (by omega) he (hL i hi he hLi) hz hq
 have hlt : bl i < w.heap.size := (Array.getElem?_eq_some_iff.1 k2).1
 refine ⟨by rw [D8 (hne i d so hi he hz hLi)]; exact k1, ⟨vs, t, by rw [hl.same _ hlt k5]; exact k2, k3⟩, k4, fun ho => k5 (hl.oldOwn _ hlt ho), fun hF => (hl.oldF _ hlt hF).elim k6 k5⟩
/-- One more is made ahead of its turn. -/
theorem Ags.more {ops : List Oper} {l : List VO} {nA m i0 : Nat} {L : Array Bool} {w0 w : World} {c : Ctx} {a : Act} {d0 : Nat} {so0 : SOp} {z0 : TV} {q0 : Option (Nat × Nat)} {vs : List Value} {t : TypeId} (hsm : Sim c w) (h : Ags ops l nA m L w0 c w a) (hsz : w0.heap.size ≤ w.heap.size) (hz0 : l[i0]? = some ⟨some d0, .s so0, none⟩) (hq0 : Z9 so0 = some (z0, q0)) (he0 : EZ (cls ops) l nA i0 = true) (hr : NZ z0 vs) (hd0 : d0 < a.tmps.size) :
  Ags ops l nA m (L.setIfInBounds i0 true) w0 c (w.alloc (.cells vs.toArray t (0, 0))) (a.put (some d0) (Ae1 q0 w.heap.size)) := by
 obtain ⟨bl, h1, h2⟩ := h
 have hL : ∀ i, i ≠ i0 → (L.setIfInBounds i0 true).getD i false = true → L.getD i false = true := by
  intro i e hh
  rw [Array.getD_eq_getD_getElem?, Array.getElem?_setIfInBounds_ne (Ne.symm e), ← Array.getD_eq_getD_getElem?] at hh; exact hh
 have hlt : ∀ i, m ≤ i → EZ (cls ops) l nA i = true → L.getD i false = true → bl i < w.heap.size := by
  intro i hi he hLi
  obtain ⟨d, so, z, q, hz, hq, _⟩ := BH he
  obtain ⟨_, ⟨vs, t, k2, _⟩, _⟩ := h1 i d so z q hi he hLi hz hq
  exact (Array.getElem?_eq_some_iff.1 k2).1
 refine ⟨fun k => if k = i0 then w.heap.size else bl k, fun i d so z q hi he hLi hz hq => ?_, fun i j hi hj he1 he2 hLi hLj e => ?_⟩
 ·by_cases e : i = i0
  ·subst e
   rw [hz0] at hz; cases hz
   rw [hq0] at hq; cases hq
   simp only [if_true]
   exact ⟨Xt hd0, ⟨vs, t, Ba w _, hr⟩, hsz, fun ho => Nat.lt_irrefl _ (hsm.own_lt ho), fun hF => Nat.lt_irrefl _ (hsm.lt _ hF)⟩
  ·simp only [if_neg e]
   obtain ⟨k1, ⟨vs', t', k2, k3⟩, k4, k5, k6⟩ := h1 i d so z q hi he (hL i e hLi) hz hq
   obtain ⟨d', so', z', q', hz', _, _, _, hn⟩ := BH he
   rw [hz] at hz'; cases hz'
   refine ⟨?_, ⟨vs', t', by rw [DI w _ (hlt i hi he (hL i e hLi))]; exact k2, k3⟩, k4, k5, k6⟩
   rw [D8 (fun h9 => (hn i0 _ hz0 (Ne.symm e)).1 h9)]; exact k1
 ·by_cases e1 : i = i0 <;> by_cases e2 : j = i0
  ·rw [e1, e2]
  ·simp only [if_pos e1, if_neg e2] at e
   have := hlt j hj he2 (hL j e2 hLj); omega
  ·simp only [if_neg e1, if_pos e2] at e
   have := hlt i hi he1 (hL i e1 hLi); omega
  ·simp only [if_neg e1, if_neg e2] at e
   exact h2 i j hi hj he1 he2 (hL i e1 hLi) (hL j e2 hLj) e

theorem Ahn {op : Op} {z : TV} (h : trS P op = some (.alloc z)) : ∃ t, op = .alloc t := by
 cases op
 case alloc t => exact ⟨t, rfl⟩
 case next x b => cases b <;> simp [trS] at h
 all_goals (simp only [trS] at h; (repeat' split at h) <;> first | (simp at h; done) | skip)
theorem AmQ {op : Op} {k b : Nat} {z : TV} {x y : Opd} (h : trS P op = some (.mks k b z x y)) : ∃ t l c, op = .makeSlice t l c ∧ x = trO l ∧ y = trO c := by
 cases op
 case makeSlice t l c =>
  refine ⟨t, l, c, rfl, ?_⟩
  simp only [trS] at h
  (repeat' split at h) <;> first | (cases h; done) | skip
  obtain ⟨x, h4, e⟩ := Option.map_eq_some_iff.1 h
  simp only [SOp.mks.injEq] at e
  exact ⟨e.2.2.2.1.symm, e.2.2.2.2.symm⟩
 case next x b => cases b <;> simp [trS] at h
 all_goals (simp only [trS] at h; (repeat' split at h) <;> first | (simp at h; done) | skip)
theorem Ab9 {x : Operand} {k : IntKind} {n : Int} (h : trO x = .c (.int k n)) (a : Act) : a.eval x = .int k n := by
 cases x with
 | const v => simp only [trO, Opd.c.injEq] at h; rw [h]; rfl
 | _ => simp [trO] at h
theorem AeX {z : Array Value} {x : TV} (hz : ∀ (c : Ctx) (w : World), Aj c w x z.toList) (h0 : z.size ≠ 0) (n : Nat) : NZ (.arr n z.size (List.replicate n x)) (madeCells z (n * z.size)).toList := by
 intro c w
 rw [Aj]
 refine ⟨by simp, fun y hy => ?_, PN (hz c.bare w) h0 n⟩
 rw [List.eq_of_mem_replicate hy, ← (hz c w).length]; simp
/-- A new block, made at once. -/
theorem Als {o : Oper} {so : SOp} {z : TV} {q : Option (Nat × Nat)} (ht : trV bz P o.op = some (.s so)) (hq : Z9 so = some (z, q)) (hf : Ae5 so = true) {a : Act} {w : World} {KK : Act → World → Prop} {Q : Exit → Act → World → Prop}
  (hk : ∀ vs t', NZ z vs → KK (a.put o.dst (Ae1 q w.heap.size)) (w.alloc (.cells vs.toArray t' (0, 0)))) : OW P o a w KK Q := by
 have hts := Amk ht
 cases so with
 | alloc z0 =>
  simp only [Z9, Option.some.injEq, Prod.mk.injEq] at hq
  obtain ⟨rfl, rfl⟩ := hq
  obtain ⟨t, ho⟩ := Ahn hts
  refine OW.of_wp (by rw [ho]; intro c h; cases h) ?_
  rw [ho] at hts
  simp only [trS] at hts
  split at hts
  ·rename_i i h1
   split at hts
   ·rename_i z1 h2
    obtain ⟨x, h3, e⟩ := Option.map_eq_some_iff.1 hts
    split at e
    ·cases e
    cases e
    have hr : NZ z0 z1.cells.toList := fun c w => (Kq h3).1
    have := hk z1.cells.toList t hr
    rw [Array.toArray_toList] at this
    have hrun : (execOp a.eval o).run P w = .ok (.value (.pointer (some ⟨w.heap.size, 0, none⟩))) (w.alloc (.cells z1.cells t (0, 0))) := by
     simp [execOp, ho, Instr.alloc, zeroValue, typeInfo, h1, h2, newVar, newRow, newObj, Sem.run]
    unfold Oper.wp
    rw [hrun]
    exact this
   ·cases hts
  ·cases hts
 | mks k bytes z0 x y =>
  unfold Z9 at hq
  split at hq
  ·rename_i so' _ he; cases he
  ·rename_i k' b' z' kl l kc c he
   cases he
   split at hq
   ·rename_i hl
    simp only [Option.some.injEq, Prod.mk.injEq] at hq
    obtain ⟨rfl, rfl⟩ := hq
    obtain ⟨rfl, hwz⟩ := hl
    obtain ⟨t, lo, co, ho, e1, e2⟩ := AmQ hts
    refine OW.of_wp (by rw [ho]; intro c h; cases h) ?_
    rw [ho] at hts
    simp only [trS] at hts
    split at hts
    ·rename_i k2 et h0
     split at hts
     ·rename_i i h1
      split at hts
      ·rename_i z1 h2
       split at hts
       ·rename_i h3
        obtain ⟨x, h4, e⟩ := Option.map_eq_some_iff.1 hts
        simp only [SOp.mks.injEq] at e
        obtain ⟨e5, e6, e7, _, _⟩ := e
        subst e5; subst e6; subst e7
        obtain ⟨g1, g2⟩ := Bi h0
        have hik : i.size = k2 := by unfold TZ at g2; rw [h1] at g2; simpa using g2
        simp only [Ae5, decide_eq_true_eq] at hf
        obtain ⟨b1, b3, b4⟩ := hf
        have hr := run_make (P := P) w t et i z1 g1 h1 h2 kl kc l l b1 (Int.le_refl _) b3 b4
        have hA := AeX (x := x) (fun c w => (Kq h4).1) (by rw [h3.1]; exact h3.2) l.toNat
        rw [h3.1] at hA
        have := hk _ et hA
        unfold Oper.wp
        simp only [execOp, ho, Ab9 e1.symm a, Ab9 e2.symm a, Sem.run_bind, hr]
        rw [Array.toArray_toList] at this
        simp [Ae1, hik, h3.1] at this ⊢
        exact this
       ·cases hts
      ·cases hts
     ·cases hts
    ·cases hts
   ·cases hq
  ·cases hq
 | _ => simp [Z9] at hq

/-- What the slots hold in the second part: what looks at slots alone may still be to be done; some new objects may have been made. -/
structure InB (Ss : List Nat) (ops : List Oper) (l : List VO) (nA N : Nat) (D : List Deferred) (m : Nat) (e : Env) (L : Array Bool) (w0 : World) (c : Ctx) (w : World) (a : Act) : Prop where
 rep : ∀ s, (∀ i v, Ky Ss (cls ops) l nA i = true → L.getD i false ≠ true → l[i]? = some v → v.dst ≠ some s) → (∀ i v, m ≤ i → NE (cls ops) l nA i = true → L.getD i false = true → l[i]? = some v → v.dst ≠ some s) → Rep c w (get e s) (a.tmps.getD s undef)
 pend : ∀ i d o g, Ky Ss (cls ops) l nA i = true → L.getD i false ≠ true → l[i]? = some ⟨some d, .p o, g⟩ → ∃ es : Env, (∀ s ∈ (VO.mk (some d) (.p o) g).rd, get es s = get e s ∨ get es s = .any) ∧ ∀ K : TV → Prop, K (get e d) → AfE g o es c.H K
 earl : Ags ops l nA m L w0 c w a
 emov : ∀ j d t, m ≤ j → EO (cls ops) l nA j = true → L.getD j false = true → l[j]? = some ⟨some d, .p (.mov (.t t)), none⟩ → a.tmps.getD d undef = a.tmps.getD t undef
 glob : MZ c.F w
 size : a.tmps.size = N
 defers : a.defers = D

theorem UZ {L : Array Bool} (hd : AeJ ops L) {j i : Nat} (hj : j < ops.length) (hLj : L.getD j false = true) (hb : ((cls ops).getD j 0).testBit i = true) : L.getD i false = true := by
 have hjl : j < (cls ops).length := by rw [Ub]; exact hj
 have hmj : (cls ops)[j]? = some ((cls ops).getD j 0) := by
  rw [List.getD_eq_getElem?_getD, List.getElem?_eq_getElem hjl]; rfl
 have hoj : ops[j]? = some ops[j] := List.getElem?_eq_getElem hj
 exact AdY hmj hoj hd.closed (hd.closed j _ hoj hLj) hb

theorem X7 {L : Array Bool} (hll : l.length = ops.length) (hd : AeJ ops L) {m i0 : Nat} {v : VO} {dst : Option Nat} {u : Value} {a : Act} (hv : l[i0]? = some v) (hvd : v.dst = dst) (h3 : ¬ L.getD i0 false = true)
  (h : ∀ j d t, m ≤ j → EO (cls ops) l nA j = true → L.getD j false = true → l[j]? = some ⟨some d, .p (.mov (.t t)), none⟩ → a.tmps.getD d undef = a.tmps.getD t undef)
  {j d t : Nat} (hj : m ≤ j) (he : EO (cls ops) l nA j = true) (hne : j ≠ i0) (hLj : (L.setIfInBounds i0 true).getD j false = true) (hz : l[j]? = some ⟨some d, .p (.mov (.t t)), none⟩) : (a.put dst u).tmps.getD d undef = (a.put dst u).tmps.getD t undef := by
 have hLj' : L.getD j false = true := by
  rw [Array.getD_eq_getD_getElem?, Array.getElem?_setIfInBounds_ne (Ne.symm hne), ← Array.getD_eq_getD_getElem?] at hLj; exact hLj
 obtain ⟨d', t', _, hz', _, hwr, hn⟩ := DL he
 rw [hz] at hz'; cases hz'
 have hjl : j < ops.length := by rw [← hll]; exact (List.getElem?_eq_some_iff.1 hz).1
 have h1 : dst ≠ some d := by rw [← hvd]; exact (hn i0 v hv (Ne.symm hne)).1
 have h2 : dst ≠ some t := fun e => h3 (UZ hd hjl hLj' (hwr i0 v hv (Ne.symm hne) (by rw [hvd]; exact e)))
 rw [D8 h1, D8 h2]
 exact h j d t hj he hLj' hz
theorem Sr {L : Array Bool} (hll : l.length = ops.length) (hd : AeJ ops L) {m m' i0 : Nat} {v : VO} {dst : Option Nat} {u : Value} {a : Act} (hv : l[i0]? = some v) (hvd : v.dst = dst) (h3 : ¬ L.getD i0 false = true) (hm : m ≤ m') (hji : ∀ j, m' ≤ j → EO (cls ops) l nA j = true → j ≠ i0)
  (h : ∀ j d t, m ≤ j → EO (cls ops) l nA j = true → L.getD j false = true → l[j]? = some ⟨some d, .p (.mov (.t t)), none⟩ → a.tmps.getD d undef = a.tmps.getD t undef) :
  ∀ j d t, m' ≤ j → EO (cls ops) l nA j = true → (L.setIfInBounds i0 true).getD j false = true → l[j]? = some ⟨some d, .p (.mov (.t t)), none⟩ → (a.put dst u).tmps.getD d undef = (a.put dst u).tmps.getD t undef :=
 fun j d t hj he hLj hz => X7 hll hd hv hvd h3 h (by omega) he (hji j hj he) hLj hz
/-- A reading of operations that may be done in an order that is open. -/
structure WOk (P : Program) (W : VOp → Env → List Ob → (TV → List Ob → Prop) → Prop) (KP : Value → List Ob → Prop) (Ss : List Nat) : Prop where
 sound : NS P W KP
 weak : ∀ {v : VO} {e : Env} {H : List Ob} {K : TV → List Ob → Prop}, W v.op e H K → W v.op (forget v.rd e) H K
 rel : ∀ {u : VOp} {e : Env} {H : List Ob} {K : TV → List Ob → Prop}, W u e H K → W u e H (fun x H' => K x H' ∧ AcT Ss u e H H')
 mov : ∀ {t : Nat} {e : Env} {H : List Ob} {K : TV → List Ob → Prop}, W (.p (.mov (.t t))) e H K → K (get e t) H
 made : ∀ {so : SOp} {z : TV} {q : Option (Nat × Nat)} {e : Env} {H : List Ob} {K : TV → List Ob → Prop}, Z9 so = some (z, q) → W (.s so) e H K → K (mkT q H.length) (H ++ [.obj 0 z])
theorem Aet {P : Program} {v : VO} {e : Env} {H : List Ob} {K : TV → List Ob → Prop} (h : vop P v.op e H K) : vop P v.op (forget v.rd e) H K := by
 rw [← AgI (e := e) fun s hs => by rw [EJ, if_pos hs]]; exact h
theorem WOk.vop {P : Program} {KP : Value → List Ob → Prop} : WOk P (vop P) KP [] := ⟨NS.vop, Aet, fun h => Af4 h, fun h => h, fun hq h => AlB hq h⟩
theorem Ab4 {P : Program} {KP : Value → List Ob → Prop} {o : VOp} {e : Env} {H : List Ob} {K : TV → List Ob → Prop} (h1 : ¬ ∃ f xs, o = .s (.call f xs)) (h2 : ¬ ∃ x, o = .s (.pan x)) : Go.Proofs.YtingoaihnlhiaaaDoor.pvop P KP o e H K = vop P o e H K := by
 cases o with
 | p o => rfl
 | s so =>
  cases so with
  | call f xs => exact absurd ⟨f, xs, rfl⟩ h1
  | pan x => exact absurd ⟨x, rfl⟩ h2
  | _ => rfl
theorem Wp {P : Program} {KP : Value → List Ob → Prop} {v : VO} {e : Env} {H : List Ob} {K : TV → List Ob → Prop} (h : pvop P KP v.op e H K) : pvop P KP v.op (forget v.rd e) H K := by
 have h1 : ∀ s ∈ (match v.op with | .p o => o.rd | .s o => o.rd), get e s = get (forget v.rd e) s := fun s hs => by rw [EJ, if_pos (show s ∈ v.rd from List.mem_append_left _ hs)]
 by_cases hc : ∃ f xs, v.op = .s (.call f xs)
 ·obtain ⟨f, xs, hv⟩ := hc
  rw [hv] at h h1 ⊢
  refine ⟨fun x hx => ?_, ?_⟩
  ·rw [← AB (e := e) (e' := forget v.rd e) fun s hs => h1 s (List.mem_flatMap.2 ⟨x, hx, hs⟩)]
   exact h.1 x hx
  ·rw [← DJ (xs := xs) (e := e) (e' := forget v.rd e) h1]
   exact h.2
 ·by_cases hp : ∃ x, v.op = .s (.pan x)
  ·obtain ⟨x, hv⟩ := hp
   rw [hv] at h h1 ⊢
   have e1 : x.ev e = x.ev (forget v.rd e) := AB h1
   unfold Go.Proofs.YtingoaihnlhiaaaDoor.pvop at h ⊢
   simp only [← e1]
   exact h
  ·rw [Ab4 hc hp] at h ⊢
   exact Aet h
theorem Aeh {P : Program} {KP : Value → List Ob → Prop} {u : VOp} {e : Env} {H : List Ob} {K : TV → List Ob → Prop} (h : pvop P KP u e H K) : pvop P KP u e H (fun x H' => K x H' ∧ AcT [] u e H H') := by
 by_cases hc : ∃ f xs, u = .s (.call f xs)
 ·obtain ⟨f, xs, rfl⟩ := hc
  exact ⟨h.1, h.2.mono (fun x H' hx => ⟨hx, VZ.nil⟩) fun _ _ h => h⟩
 ·by_cases hp : ∃ x, u = .s (.pan x)
  ·obtain ⟨x, rfl⟩ := hp
   exact h
  ·rw [Ab4 hc hp] at h ⊢
   exact Af4 h
theorem AhU {P : Program} {KP : Value → List Ob → Prop} {so : SOp} {z : TV} {q : Option (Nat × Nat)} {e : Env} {H : List Ob} {K : TV → List Ob → Prop} (hq : Z9 so = some (z, q)) (h : pvop P KP (.s so) e H K) : K (mkT q H.length) (H ++ [.obj 0 z]) := by
 cases so with
 | call f xs => simp [Z9] at hq
 | pan x => simp [Z9] at hq
 | _ => exact AlB (P := P) (e := e) hq h
theorem WOk.pvop {P : Program} {KP : Value → List Ob → Prop} : WOk P (pvop P KP) KP [] := ⟨NS.pvop, Wp, fun h => Aeh h, fun h => h, fun hq h => AhU hq h⟩
/-- The same, where something may be Tt at while a call goes on: the call leaves it aS it is. -/
def pvopS (P : Program) (KP : Value → List Ob → Prop) (Ss : List Nat) (o : VOp) (e : Env) (H : List Ob) (K : TV → List Ob → Prop) : Prop := match o with
 | .s (.call f xs) => Go.Proofs.YtingoaihnlhiaaaDoor.pvop P KP (.s (.call f xs)) e H fun x H' => K x H' ∧ VZ Ss e H H'
 | .s (.store sz x v) => Go.Proofs.YtingoaihnlhiaaaDoor.pvop P KP (.s (.store sz x v)) e H fun x H' => K x H' ∧ VZ Ss e H H'
 | o => Go.Proofs.YtingoaihnlhiaaaDoor.pvop P KP o e H K
theorem XU {P : Program} {KP : Value → List Ob → Prop} {sz : Nat} {x v : Opd} {e : Env} {H : List Ob} {K K' : TV → List Ob → Prop} (h : Go.Proofs.YtingoaihnlhiaaaDoor.pvop P KP (.s (.store sz x v)) e H K) (hk : ∀ x H', K x H' → K' x H') : Go.Proofs.YtingoaihnlhiaaaDoor.pvop P KP (.s (.store sz x v)) e H K' := by
 have h' : sop P (.store sz x v) e H K := h
 show sop P (.store sz x v) e H K'
 simp only [sop] at h' ⊢
 refine ⟨h'.1, ?_⟩
 have h2 := h'.2
 split at h2
 ·split at h2
  ·obtain ⟨rfl, h3⟩ := h2
   refine ⟨rfl, ?_⟩
   split at h3
   ·exact hk _ _ h3
   ·exact h3.elim
  ·exact h2.elim
 ·exact h2.elim
theorem YN {P : Program} {KP : Value → List Ob → Prop} {Ss : List Nat} {u : VOp} {e : Env} {H : List Ob} {K : TV → List Ob → Prop} (h : pvopS P KP Ss u e H K) : Go.Proofs.YtingoaihnlhiaaaDoor.pvop P KP u e H K := by
 unfold pvopS at h
 split at h
 ·exact ⟨h.1, h.2.mono (fun x H' hx => hx.1) fun _ _ h => h⟩
 ·exact XU h fun x H' hx => hx.1
 ·exact h
theorem VZ.forget {Ss kp : List Nat} {e : Env} {H H' : List Ob} (h : VZ Ss e H H') : VZ Ss (Go.Proofs.YtingoaihnlhiaaaDoor.forget kp e) H H' := fun s hs id ver p hg => by
 rw [EJ] at hg
 split at hg
 ·exact h s hs id ver p hg
 ·cases hg
theorem AaF {P : Program} {KP : Value → List Ob → Prop} {Ss : List Nat} {o : VOp} {e : Env} {H : List Ob} {K : TV → List Ob → Prop} (h1 : ¬ ∃ f xs, o = .s (.call f xs)) (h2 : ¬ ∃ sz x v, o = .s (.store sz x v)) : Go.Proofs.YtingoaihnlhiaaaDoor.pvopS P KP Ss o e H K = pvop P KP o e H K := by
 cases o with
 | p o => rfl
 | s so =>
  cases so with
  | call f xs => exact absurd ⟨f, xs, rfl⟩ h1
  | store sz x v => exact absurd ⟨sz, x, v, rfl⟩ h2
  | _ => rfl
theorem WOk.pvopS {P : Program} {KP : Value → List Ob → Prop} {Ss : List Nat} : WOk P (pvopS P KP Ss) KP Ss := by
 refine ⟨fun hs he _ _ _ ht h => NS.pvop hs he ht (YN h), fun {v e H K} h => ?_, fun {u e H K} h => ?_, fun {t e H K} h => h, fun {so z q e H K} hq h => AhU hq (YN h)⟩
 ·by_cases hc : ∃ f xs, v.op = .s (.call f xs)
  ·obtain ⟨f, xs, hv⟩ := hc
   have h' : Go.Proofs.YtingoaihnlhiaaaDoor.pvop P KP v.op e H fun x H' => K x H' ∧ VZ Ss e H H' := by rw [hv] at h ⊢; exact h
   have := Wp h'
   rw [hv] at this ⊢
   exact ⟨this.1, this.2.mono (fun x H' hx => ⟨hx.1, hx.2.forget⟩) fun _ _ h => h⟩
  ·by_cases hst : ∃ sz x y, v.op = .s (.store sz x y)
   ·obtain ⟨sz, x, y, hv⟩ := hst
    have h' : Go.Proofs.YtingoaihnlhiaaaDoor.pvop P KP v.op e H fun x H' => K x H' ∧ VZ Ss e H H' := by rw [hv] at h ⊢; exact h
    have := Wp h'
    rw [hv] at this ⊢
    show Go.Proofs.YtingoaihnlhiaaaDoor.pvop P KP (.s (.store sz x y)) (forget v.rd e) H fun x H' => K x H' ∧ VZ Ss (forget v.rd e) H H'
    exact XU this fun x H' hx => ⟨hx.1, hx.2.forget⟩
   ·rw [AaF hc hst] at h ⊢
    exact Wp h
 ·by_cases hc : ∃ f xs, u = .s (.call f xs)
  ·obtain ⟨f, xs, rfl⟩ := hc
   exact ⟨h.1, h.2.mono (fun x H' hx => ⟨⟨hx.1, hx.2⟩, hx.2⟩) fun _ _ h => h⟩
  ·by_cases hst : ∃ sz x y, u = .s (.store sz x y)
   ·obtain ⟨sz, x, y, rfl⟩ := hst
    have h' : Go.Proofs.YtingoaihnlhiaaaDoor.pvop P KP (.s (.store sz x y)) e H fun x H' => K x H' ∧ VZ Ss e H H' := h
    show Go.Proofs.YtingoaihnlhiaaaDoor.pvop P KP (.s (.store sz x y)) e H fun x' H' => (K x' H' ∧ AcT Ss (.s (.store sz x y)) e H H') ∧ VZ Ss e H H'
    exact XU h' fun x H' hx => ⟨⟨hx.1, hx.2⟩, hx.2⟩
   rw [AaF hc hst] at h ⊢
   have h2 := Aeh h
   have e1 : (fun x H' => K x H' ∧ AcT Ss u e H H') = fun x H' => K x H' ∧ AcT [] u e H H' := by
    funext x H'
    cases u with
    | p o => rfl
    | s o =>
     cases o with
     | call f xs => exact absurd ⟨f, xs, rfl⟩ hc
     | store sz x v => exact absurd ⟨sz, x, v, rfl⟩ hst
     | _ => rfl
   rw [e1]; exact h2
/-- What follows: all went well, or there was a panic. -/
def AhM (N : Nat) (D : List Deferred) (c0 : Ctx) (w0 : World) (QQ : Exit → Act → World → Prop) (K : Env → List Ob → Prop) (KP : Value → List Ob → Prop) : Prop :=
 (∀ e' H' β' F' w' a', K e' H' → Sim ⟨β', H', F'⟩ w' → Fr N D ⟨β', H', F'⟩ w' e' a' → AO c0 w0 ⟨β', H', F'⟩ w' → QQ .normal a' w') ∧
 ∀ u H' β' F' w' a', KP u H' → Sim ⟨β', H', F'⟩ w' → Fr N D ⟨β', H', F'⟩ w' [] a' → AO c0 w0 ⟨β', H', F'⟩ w' → QQ (.panic [{ v := u, recovered := false }]) a' w'
/-- What was made ahead of its turn is taken up in its turn. -/
theorem InB.adopt {W : VOp → Env → List Ob → (TV → List Ob → Prop) → Prop} {KP : Value → List Ob → Prop} (hW : WOk P W KP Ss) (hc : Chk Ss ops l nA) (hll : l.length = ops.length) {c0 : Ctx} {w0 : World} {L : Array Bool} (hd : AeJ ops L) : ∀ (k m : Nat), ops.length - m = k → ∀ {K : Env → List Ob → Prop} {e : Env} {H : List Ob} {β : Nat → Nat → Option (Nat × Nat)} {F : Nat → Prop} {w : World} {a : Act}, nA ≤ m → m ≤ ops.length →
  (∀ i, i < ops.length → nA ≤ i → (i < m → L.getD i false = true) ∧ (m ≤ i → L.getD i false = true → NE (cls ops) l nA i = true)) →
  TD W (l.drop m) K e H → Sim ⟨β, H, F⟩ w → AO c0 w0 ⟨β, H, F⟩ w → InB Ss ops l nA N D m e L w0 ⟨β, H, F⟩ w a →
  ∃ (m' : Nat) (e' : Env) (H' : List Ob) (β' : Nat → Nat → Option (Nat × Nat)), nA ≤ m' ∧ m' ≤ ops.length ∧ (m' < ops.length → L.getD m' false ≠ true) ∧ (∀ i, i < ops.length → nA ≤ i → (i < m' → L.getD i false = true) ∧ (m' ≤ i → L.getD i false = true → NE (cls ops) l nA i = true)) ∧
   TD W (l.drop m') K e' H' ∧ Sim ⟨β', H', F⟩ w ∧ AO c0 w0 ⟨β', H', F⟩ w ∧ InB Ss ops l nA N D m' e' L w0 ⟨β', H', F⟩ w a := by
 intro k
 induction k with
 | zero =>
  intro m hk K e H β F w a h1 h2 hL h hs hl hB
  exact ⟨m, e, H, β, h1, h2, fun h => by omega, hL, h, hs, hl, hB⟩
 | succ k ih =>
  intro m hk K e H β F w a h1 h2 hL h hs hl hB
  by_cases hLm : L.getD m false = true
  ·have hml : m < ops.length := by omega
   have he := (hL m hml h1).2 (Nat.le_refl _) hLm
   cases hop : EZ (cls ops) l nA m with
   | false =>
    have hmv : EO (cls ops) l nA m = true := by unfold NE at he; rwa [hop, Bool.false_or] at he
    obtain ⟨d, t, h0, hz, hdt, hwr, hn⟩ := DL hmv
    have hdrop : l.drop m = ⟨some d, .p (.mov (.t t)), none⟩ :: l.drop (m + 1) := by
     obtain ⟨hlt, e9⟩ := List.getElem?_eq_some_iff.1 hz
     rw [List.drop_eq_getElem_cons hlt, e9]
    rw [hdrop, TD] at h
    have h' : TD W (l.drop (m + 1)) K (Zf e (some d) (get e t)) H := hW.mov h
    have hval := hB.emov m d t (Nat.le_refl _) hmv hLm hz
    have hrt : Rep ⟨β, H, F⟩ w (get e t) (a.tmps.getD t undef) := hB.rep t (fun i v hf hLi hv hdd => by
      obtain ⟨_, _, _, _, hlt, _⟩ := CV hf
      exact hLi (UZ hd hml hLm (hwr i v hv (by omega) hdd))) (fun i v him hei _ hv hdd => by
      by_cases e9 : i = m
      ·subst e9; rw [hz] at hv; cases hv; cases hdd; exact hdt rfl
      ·have := Xq hc hml (hwr i v hv e9 hdd); omega)
    refine ih (m + 1) (by omega) (by omega) (by omega) (fun i hi hni => ⟨fun him => ?_, fun him hLi => (hL i hi hni).2 (by omega) hLi⟩) h' hs hl ⟨fun s hs1 hs2 => ?_, fun i d' o g' hf hLi hi => (by
      obtain ⟨_, _, _, _, hlt, _⟩ := CV hf
      obtain ⟨es, p1, p2⟩ := hB.pend i d' o g' hf hLi hi
      obtain ⟨q1, q2⟩ := hn i _ hi (by omega)
      refine ⟨es, fun s hs' => ?_, fun K' hK' => p2 K' ?_⟩
      ·rw [BO (by
        intro e8; cases e8
        have := Xq hc (by have := (List.getElem?_eq_some_iff.1 hi).1; omega) (q2 hs'); omega)]
       exact p1 s hs'
      ·rwa [BO (by intro e8; cases e8; exact q1 rfl)] at hK'), ?_, fun j d' t' hj => hB.emov j d' t' (by omega), hB.glob, hB.size, hB.defers⟩
    ·by_cases e9 : i = m
     ·subst e9; exact hLm
     ·exact (hL i hi hni).1 (by omega)
    ·by_cases e9 : d = s
     ·subst e9
      rw [P9, hval]
      exact hrt
     ·rw [BO (by simpa using e9)]
      refine hB.rep s hs1 fun i v him he' hLi hv => ?_
      by_cases e8 : i = m
      ·subst e8; rw [hz] at hv; cases hv; simpa using e9
      ·exact hs2 i v (by omega) he' hLi hv
    ·obtain ⟨bl, b1, b2⟩ := hB.earl
     exact ⟨bl, fun i d' so' z' q' him he' => b1 i d' so' z' q' (by omega) he', fun i j hi hj => b2 i j (by omega) (by omega)⟩
   | true =>
    obtain ⟨d, so, z, q, hz, hq, hfit, _, hn⟩ := BH hop
    have hdrop : l.drop m = ⟨some d, .s so, none⟩ :: l.drop (m + 1) := by
     obtain ⟨hlt, e9⟩ := List.getElem?_eq_some_iff.1 hz
     rw [List.drop_eq_getElem_cons hlt, e9]
    rw [hdrop, TD] at h
    have h' : TD W (l.drop (m + 1)) K (Zf e (some d) (mkT q H.length)) (H ++ [.obj 0 z]) := hW.made hq h
    obtain ⟨bl, b1, b2⟩ := hB.earl
    obtain ⟨k1, ⟨vs, t, k2, k3⟩, k4, k5, k6⟩ := b1 m d so z q (Nat.le_refl _) hop hLm hz hq
    obtain ⟨s1, s2, s3⟩ := hs.adopt k3 k2 k5 k6
    refine ih (m + 1) (by omega) (by omega) (by omega) (fun i hi hni => ⟨fun him => ?_, fun him hLi => (hL i hi hni).2 (by omega) hLi⟩) h' s1 (hl.adopt k4 rfl s2 s3) ⟨fun s hs1 hs2 => ?_, fun i d' o g' hf hLi hi => ?_, ⟨bl, fun i d' so' z' q' him he' hLi hz' hq' => ?_, fun i j hi hj => b2 i j (by omega) (by omega)⟩, fun j d' t' hj => hB.emov j d' t' (by omega), hB.glob, hB.size, hB.defers⟩
    ·by_cases e9 : i = m
     ·subst e9; exact hLm
     ·exact (hL i hi hni).1 (by omega)
    ·by_cases e9 : d = s
     ·subst e9
      rw [P9, k1]
      exact Rep.mkT (AeL hq hfit) (k3 _ _) k2
     ·rw [BO (by simpa using e9)]
      refine Rep.mono s2 (hB.rep s hs1 fun i v him he' hLi hv => ?_)
      by_cases e8 : i = m
      ·subst e8; rw [hz] at hv; cases hv; simpa using e9
      ·exact hs2 i v (by omega) he' hLi hv
    ·obtain ⟨d2, o2, g2, f1, f2, f3, f4, f5⟩ := CV hf
     rw [hi] at f1; cases f1
     have hmi : m ≠ i := by omega
     obtain ⟨es, p1, p2⟩ := hB.pend i d' o g' hf hLi hi
     have hcal : ∀ K : TV → Prop, K (get e d') → AfE g' o es (H ++ [.obj 0 z]) K := AaU (Ss := Ss) (u := .s so) (e := e) (by
      rcases f3 m _ (by omega) hz with g | g | g
      ·exact .inl g
      ·exact absurd (UZ hd (by omega) hLm g) hLi
      ·exact .inr g) (by cases so <;> first | exact ⟨_, rfl⟩ | (simp [Z9] at hq)) p1 p2
     refine ⟨es, fun s hs' => ?_, fun K' hK' => hcal K' ?_⟩
     ·rw [BO (by
       intro e8; cases e8
       have h7 := (hn i _ hi (Ne.symm hmi)).2 hs'
       have := Xq hc (by have := (List.getElem?_eq_some_iff.1 hi).1; omega) h7; omega)]
      exact p1 s hs'
     ·rwa [BO (by simpa using (f5 m _ d hz hmi rfl).1)] at hK'
    ·obtain ⟨q1, ⟨vs', t', q2, q3⟩, q4, q5, q6⟩ := b1 i d' so' z' q' (by omega) he' hLi hz' hq'
     refine ⟨q1, ⟨vs', t', q2, q3⟩, q4, fun ho => ?_, q6⟩
     rcases s3 _ ho with ho | ho
     ·exact q5 ho
     ·have := b2 i m (by omega) (Nat.le_refl _) he' hop hLi hLm ho; omega
  ·exact ⟨m, e, H, β, h1, h2, fun _ => hLm, hL, h, hs, hl, hB⟩

/-- The second part: one by one; what is free to be done at any time is done in between. -/
theorem AbZ {W : VOp → Env → List Ob → (TV → List Ob → Prop) → Prop} {KP : Value → List Ob → Prop} (hW : WOk P W KP Ss) (hc : Chk Ss ops l nA) (htr : trL bz P N ops ops = some l) {c0 : Ctx} {w0 : World} {QQ : Exit → Act → World → Prop} : ∀ (fuel m0 : Nat) {K : Env → List Ob → Prop} {e0 : Env} {H0 : List Ob} {β0 : Nat → Nat → Option (Nat × Nat)} {F : Nat → Prop} {w : World} {a : Act} {L : Array Bool}, nA ≤ m0 → m0 ≤ ops.length → AeJ ops L →
  (∀ i, i < ops.length → nA ≤ i → (i < m0 → L.getD i false = true) ∧ (m0 ≤ i → L.getD i false = true → NE (cls ops) l nA i = true)) →
  (∀ i, i < nA → Ky Ss (cls ops) l nA i ≠ true → L.getD i false = true) → VQ ops L ≤ fuel →
  TD W (l.drop m0) K e0 H0 → Sim ⟨β0, H0, F⟩ w → AO c0 w0 ⟨β0, H0, F⟩ w → InB Ss ops l nA N D m0 e0 L w0 ⟨β0, H0, F⟩ w a →
  AhM N D c0 w0 QQ K KP → wpAnyIn (fz ro) nn P .any ops.toArray QQ fuel L a w := by
 obtain ⟨hll, hlg⟩ := Abp htr
 have hle := hc.le
 have fin : ∀ {m : Nat} {K : Env → List Ob → Prop} {e : Env} {H : List Ob} {β : Nat → Nat → Option (Nat × Nat)} {F : Nat → Prop} {w : World} {a : Act} {L : Array Bool}, m ≤ ops.length → (m < ops.length → L.getD m false ≠ true) → (∀ i, i < ops.length → L.getD i false = true) →
   TD W (l.drop m) K e H → InB Ss ops l nA N D m e L w0 ⟨β, H, F⟩ w a → K e H ∧ Fr N D ⟨β, H, F⟩ w e a := by
  intro m K e H β F w a L h2 hmL hall h hB
  have hm : m = ops.length := by
   rcases Nat.lt_or_ge m ops.length with hlt | hge
   ·exact absurd (hall m hlt) (hmL hlt)
   ·omega
  subst hm
  rw [List.drop_eq_nil_of_le (by omega)] at h
  refine ⟨h, ⟨⟨fun s => hB.rep s (fun i v hfi hLi hv _ => ?_) (fun i v him he _ hv _ => ?_), hB.glob⟩, hB.size, hB.defers⟩⟩
  ·exact hLi (hall i (by rw [← hll]; exact (List.getElem?_eq_some_iff.1 hv).1))
  ·have := (List.getElem?_eq_some_iff.1 hv).1; omega
 intro fuel
 induction fuel with
 | zero =>
  intro m0 K e0 H0 β0 F w a L h1 h2 hd hL hF hf h hs hl hB hk
  obtain ⟨m, e, H, β, h1, h2, hmL, hL, h, hs, hl, hB⟩ := InB.adopt hW hc hll hd _ m0 rfl h1 h2 hL h hs hl hB
  have hall : ∀ i, i < ops.length → L.getD i false = true := by
   intro i hi
   have h0 : VQ ops L = 0 := by omega
   unfold VQ at h0
   rw [List.length_eq_zero_iff, List.filter_eq_nil_iff] at h0
   have := h0 i (by simpa using hi)
   simpa using this
  obtain ⟨k1, k2⟩ := fin h2 hmL hall h hB
  refine ⟨?_, hk.1 _ _ _ _ _ _ k1 hs k2 hl⟩
  rw [List.eq_nil_iff_forall_not_mem]
  intro i hi
  obtain ⟨o, ho, h3, _⟩ := H7 hi
  have hil : i < ops.length := (List.getElem?_eq_some_iff.1 ho).1
  have := hall i hil
  have hiL : i < L.size := by rw [hd.size]; exact hil
  rw [Array.getD_eq_getD_getElem?, Array.getElem?_eq_getElem hiL] at h3 this
  simp at h3 this; rw [h3] at this; cases this
 | succ fuel ih =>
  intro m0 K e0 H0 β0 F w a L h1 h2 hd hL hF hf h hs hl hB hk
  obtain ⟨m, e, H, β, h1, h2, hmL, hL, h, hs, hl, hB⟩ := InB.adopt hW hc hll hd _ m0 rfl h1 h2 hL h hs hl hB
  refine ⟨fun h0 => ?_, fun i hi => ?_⟩
  ·obtain ⟨k1, k2⟩ := fin h2 hmL (Zi hc hd h0) h hB
   exact hk.1 _ _ _ _ _ _ k1 hs k2 hl
  ·obtain ⟨o, ho, h3, h4⟩ := H7 hi
   have hil : i < ops.length := (List.getElem?_eq_some_iff.1 ho).1
   have hiL : i < L.size := by rw [hd.size]; exact hil
   have h3' : ¬ (L.getD i false = true) := by
    rw [Array.getD_eq_getD_getElem?, Array.getElem?_eq_getElem hiL] at h3 ⊢; simp at h3 ⊢; exact h3
   have hd' := hd.set hi
   have hu := AaQ hd hi
   have hmono : ∀ j, (L.setIfInBounds i true).getD j false = true → j = i ∨ L.getD j false = true := by
    intro j hj
    by_cases hij : i = j
    ·exact .inl hij.symm
    ·right
     rw [Array.getD_eq_getD_getElem?, Array.getElem?_setIfInBounds_ne hij, ← Array.getD_eq_getD_getElem?] at hj; exact hj
   have hkeep : ∀ j, L.getD j false = true → (L.setIfInBounds i true).getD j false = true := by
    intro j hj
    by_cases hij : i = j
    ·subst hij; simp [hiL]
    ·rw [Array.getD_eq_getD_getElem?, Array.getElem?_setIfInBounds_ne hij, ← Array.getD_eq_getD_getElem?]; exact hj
   have hset : (L.setIfInBounds i true).getD i false = true := by simp [hiL]
   obtain ⟨v, hv1, hv2, hv3, hv4, hv5⟩ := hlg i o ho
   have hd5 : v.dst.all (· < N) = true := by rw [hv4]; exact hv5
   have hF' : ∀ j, j < nA → Ky Ss (cls ops) l nA j ≠ true → (L.setIfInBounds i true).getD j false = true := fun j hj hfj => hkeep j (hF j hj hfj)
   rcases Nat.lt_or_ge i nA with hin | hin
   ·-- one that is free
    have hfr : Ky Ss (cls ops) l nA i = true := by
     cases hb : Ky Ss (cls ops) l nA i with
     | true => rfl
     | false => exact absurd (hF i hin (by rw [hb]; simp)) h3'
    obtain ⟨d, po, gg, e1, _, e2, e3, e4⟩ := CV hfr
    obtain ⟨es, p1, hp⟩ := hB.pend i d po gg hfr h3' e1
    rw [hv1] at e1
    obtain rfl := Option.some.inj e1
    have hdN : d < a.tmps.size := by rw [hB.size]; simpa using hd5
    have hod : o.dst = some d := hv4.symm
    have hnearly : m ≤ i → EZ (cls ops) l nA i ≠ true := fun h => by omega
    refine Y8 (all := ops) (x := get e d) (e := forget (VO.mk (some d) (.p po) gg).rd es) hv2 hv3 hs ⟨fun s' => ?_, hs.glob⟩ ?_ ho ?_
    ·rw [EJ]
     split
     ·rename_i hs'
      rcases p1 s' hs' with p1 | p1
      case inr => rw [p1]; exact Rep.any
      rw [p1]
      refine hB.rep s' (fun k vk hfk hLk hvk hdk => ?_) (fun k vk hmk hek hLk hvk hdk => ?_)
      ·-- what it looks at stands ahead of it
       have hki : k ≠ i := fun h9 => by subst h9; rw [hv1] at hvk; cases hvk; cases hdk; exact e3 hs'
       obtain ⟨_, _, _, _, hkA, _⟩ := CV hfk
       have hsrd : s' ∈ (VO.mk (some d) (.p po) gg).rd := hs'
       rcases hc.read i k _ vk s' hin hkA hv1 hvk hdk hsrd with hb | hb
       ·exact hLk (Na hc hd hi hb)
       ·have hik := Xq hc (by omega) hb
        rcases (e4 k vk s' hvk hki hdk).2 with g | g | g
        ·exact g hs'
        ·omega
        ·omega
      ·obtain ⟨_, _, hz, _, hn⟩ := XW hek
       rw [hz] at hvk; cases hvk; cases hdk
       have hb := (hn i _ hv1 (by omega)).2 hs'
       have := Xq hc hil hb; omega
     ·exact Rep.any
    ·exact AcJ (e := es) (fun s hs' => by rw [EJ, if_pos hs']) (Ac3 hp)
    ·intro β' F' w' u hs' hl' hx
     have hm := hl'.mono hs
     refine ih m h1 h2 hd' (fun j hj hnj => ⟨fun hjm => hkeep j ((hL j hj hnj).1 hjm), fun hmj hh => (hL j hj hnj).2 hmj ((hmono j hh).resolve_left (by omega))⟩) hF' (by omega) h hs' (hl.trans hl') ⟨fun s hs1 hs2 => ?_, fun k dk ok gk hfk hLk hk' => ?_, ?_, Sr hll hd hv1 hv4 h3' (Nat.le_refl _) (fun j hj he e => by omega) hB.emov, hB.glob.keep hm.stay, by rw [Uc]; exact hB.size, by rw [KZ]; exact hB.defers⟩ hk
     ·by_cases hsd : d = s
      ·subst hsd; rw [hod, Xt hdN]; exact hx
      ·rw [D8 (by rw [hod]; simpa using hsd)]
       refine Rep.mono hm (hB.rep s (fun k vk hfk hLk hvk hdk => ?_) (fun k vk hmk hek hLk hvk => hs2 k vk hmk hek (hkeep k hLk) hvk))
       by_cases hki : k = i
       ·subst hki; rw [hv1] at hvk; cases hvk; exact hsd (by simpa using hdk)
       ·exact hs1 k vk hfk (fun hh => (hmono k hh).elim hki hLk) hvk hdk
     ·exact hB.pend k dk ok gk hfk (fun hh => hLk (hkeep k hh)) hk'
     ·refine hB.earl.step hl' (Nat.le_refl _) (fun k dk so hmk hek hz _ => ?_) hnearly
      obtain ⟨_, _, _, _, hz', _, _, _, hn⟩ := BH hek
      rw [hz] at hz'; cases hz'
      rw [hod]; exact (hn i _ hv1 (by omega)).1
   ·have hnf : ∀ k, nA ≤ k → Ky Ss (cls ops) l nA k ≠ true := fun k hk hf' => by obtain ⟨_, _, _, _, h9, _⟩ := CV hf'; omega
    have him : m ≤ i := by
     rcases Nat.lt_or_ge i m with h5 | h5
     ·exact absurd ((hL i hil hin).1 h5) h3'
     ·exact h5
    have hml : m < ops.length := by omega
    by_cases hieq : i = m
    ·subst hieq
     have hdrop : l.drop i = v :: l.drop (i + 1) := by
      obtain ⟨hlt, rfl⟩ := List.getElem?_eq_some_iff.1 hv1
      rw [List.drop_eq_getElem_cons hlt]
     rw [hdrop, TD] at h
     have hL' : ∀ j, j < ops.length → nA ≤ j → (j < i + 1 → (L.setIfInBounds i true).getD j false = true) ∧ (i + 1 ≤ j → (L.setIfInBounds i true).getD j false = true → NE (cls ops) l nA j = true) := by
      intro j hj hnj
      refine ⟨fun hji => ?_, fun hij hh => (hL j hj hnj).2 (by omega) ((hmono j hh).resolve_left (by omega))⟩
      by_cases e9 : j = i
      ·subst e9; exact hset
      ·exact hkeep j ((hL j hj hnj).1 (by omega))
     -- what it reads is neither to be done still nor made ahead
     have hread : ∀ s ∈ v.rd, (∀ k u, Ky Ss (cls ops) l nA k = true → L.getD k false ≠ true → l[k]? = some u → u.dst ≠ some s) ∧ (∀ k u, i ≤ k → NE (cls ops) l nA k = true → L.getD k false = true → l[k]? = some u → u.dst ≠ some s) := by
      intro s hsr
      refine ⟨fun k u hfk hLk hu hud => ?_, fun k u hik hek hLk hu hud => ?_⟩
      ·by_cases hea : NE (cls ops) l nA i = true
       ·unfold NE at hea
        rw [Bool.or_eq_true] at hea
        rcases hea with hea | hea
        ·obtain ⟨_, so, _, _, hz, hq, _⟩ := BH hea
         rw [hv1] at hz; cases hz
         rw [Amm hq] at hsr; cases hsr
        ·obtain ⟨d9, t9, _, hz9, _, hwr9, _⟩ := DL hea
         rw [hv1] at hz9; cases hz9
         obtain ⟨_, _, _, _, hkA, _⟩ := CV hfk
         have hst : s = t9 := by simpa [VO.rd, POp.rd, Opd.rd] using hsr
         exact hLk (Na hc hd hi (hwr9 k u hu (by omega) (by rw [hud, hst])))
       ·obtain ⟨_, _, _, _, hkA, _⟩ := CV hfk
        rcases hc.wait i hil hin hea k (by omega) with hw | ⟨_, hw⟩
        ·exact hLk (Na hc hd hi hw)
        ·exact hw v u s hv1 hu hud hsr
      ·obtain ⟨_, _, hz, _, hn⟩ := XW hek
       rw [hz] at hu; cases hu; cases hud
       have hki : i ≠ k := fun h9 => h3' (h9 ▸ hLk)
       have := Xq hc hil ((hn i v hv1 hki).2 hsr); omega
     have hpdst : ∀ k dk ok gk, Ky Ss (cls ops) l nA k = true → L.getD k false ≠ true → l[k]? = some ⟨some dk, .p ok, gk⟩ → v.dst ≠ some dk ∧ ∀ d, v.dst = some d → ¬ d ∈ (VO.mk (some dk) (.p ok) gk).rd := by
      intro k dk ok gk hfk hLk hk'
      obtain ⟨dk', ok', gk', f1, f0, f2, f3, f4⟩ := CV hfk
      rw [hk'] at f1; cases f1
      refine ⟨fun hvd => (f4 i v dk hv1 (by omega) hvd).1 rfl, fun d hvd => ?_⟩
      rcases (f4 i v d hv1 (by omega) hvd).2 with g | g | ⟨_, g⟩
      ·exact g
      ·omega
      ·exact absurd (Na hc hd hi g) hLk
     have step : ∀ {e : Env} {x : TV} {H' : List Ob} {β' : Nat → Nat → Option (Nat × Nat)} {F' : Nat → Prop} {w' : World} {u : Value}, InB Ss ops l nA N D i e L w0 ⟨β, H, F⟩ w a → TD W (l.drop (i + 1)) K (Zf e v.dst x) H' → Sim ⟨β', H', F'⟩ w' → AO ⟨β, H, F⟩ w ⟨β', H', F'⟩ w' → Rep ⟨β', H', F'⟩ w' x u → (H' = H ∨ AcT Ss v.op e H H') → wpAnyIn (fz ro) nn P .any ops.toArray QQ fuel (L.setIfInBounds i true) (a.put o.dst u) w' := by
      intro e x H' β' F' w' u hB hK hs' hl' hx hrel
      have hm := hl'.mono hs
      rw [← hv4]
      refine ih (i + 1) (by omega) (by omega) hd' hL' hF' (by omega) hK hs' (hl.trans hl') ⟨fun s hs1 hs2 => ?_, fun k dk ok gk hfk hLk hk' => ?_, ?_, Sr hll hd hv1 rfl h3' (by omega) (fun j hj he e => by omega) hB.emov, hB.glob.keep hm.stay, by rw [Uc]; exact hB.size, by rw [KZ]; exact hB.defers⟩ hk
      ·by_cases hvs : v.dst = some s
       ·rw [hvs, P9, Xt (by rw [hB.size]; rw [hvs] at hd5; simpa using hd5)]; exact hx
       ·rw [BO hvs, D8 hvs]
        refine Rep.mono hm (hB.rep s (fun k vk hfk hLk hvk hdk => hs1 k vk hfk (fun hh => (hmono k hh).elim (fun e => hnf i hin (e ▸ hfk)) hLk) hvk hdk) (fun k vk hmk hek hLk hvk => ?_))
        have hki : k ≠ i := fun h9 => h3' (h9 ▸ hLk)
        exact hs2 k vk (by omega) hek (hkeep k hLk) hvk
      ·have hLk' : L.getD k false ≠ true := fun hh => hLk (hkeep k hh)
       obtain ⟨g1, g2⟩ := hpdst k dk ok gk hfk hLk' hk'
       obtain ⟨es, p1, p2⟩ := hB.pend k dk ok gk hfk hLk' hk'
       have hcal : ∀ K : TV → Prop, K (get e dk) → AfE gk ok es H' K := by
        rcases hrel with rfl | hrel
        ·exact p2
        ·obtain ⟨dk', ok', gk', f1, f0, f2, f3, f4⟩ := CV hfk
         rw [hk'] at f1; cases f1
         refine AaU (u := v.op) (e := e) ?_ hrel p1 p2
         rcases f2 i v hin hv1 with g | g | g
         ·exact .inl g
         ·exact absurd (Na hc hd hi g) hLk'
         ·exact .inr g
       exact ⟨es, fun s hs' => by rw [BO fun h9 => g2 s h9 hs']; exact p1 s hs', fun K' hK' => hcal K' (by rwa [BO g1] at hK')⟩
      ·refine hB.earl.step hl' (by omega) (fun k dk so hmk hek hz _ => ?_) (fun h9 => by omega)
       obtain ⟨_, _, _, _, hz', _, _, _, hn⟩ := BH hek
       rw [hz] at hz'; cases hz'
       exact (hn i v hv1 (by omega)).1
     have go : ∀ {e : Env}, InB Ss ops l nA N D i e L w0 ⟨β, H, F⟩ w a → W v.op e H (fun x H => TD W (l.drop (i + 1)) K (Zf e v.dst x) H) → o.wpIn (fz ro) nn P a w (wpAnyIn (fz ro) nn P .any ops.toArray QQ fuel (L.setIfInBounds i true)) QQ := fun {e} hB h => by
      replace h := hW.rel h
      replace h := hW.weak h
      have henv : A8 ⟨β, H, F⟩ w (forget v.rd e) a := ⟨fun s => by
       rw [EJ]
       split
       ·rename_i hs'; exact hB.rep s (hread s hs').1 (hread s hs').2
       ·exact Rep.any, hs.glob⟩
      refine hW.sound hs henv hv2 h o _ QQ rfl (Ael hv2) ?_ (fun u H' β' F' w' hK hs' hl' => hk.2 u H' β' F' w' a hK hs' ⟨⟨fun _ => Rep.any, hs'.glob⟩, hB.size, hB.defers⟩ (hl.trans hl')) ro nn
      intro x H' β' F' w' u hK hs' hl hx
      exact step hB hK.1 hs' hl hx (.inr hK.2)
     unfold wpOpIn
     simp only [List.getElem?_toArray, ho]
     cases hog : o.guard with
     | none =>
      rw [hog] at hv3
      simp only [trG, Option.some.injEq] at hv3
      rw [← hv3] at h
      have : Region.wanted o (yielded ops.toArray a.tmps) = true := by simp [Region.wanted, hog]
      rw [if_pos this]
      exact (go hB h)
     | some jb =>
      obtain ⟨j, b⟩ := jb
      rw [hog] at hv3
      simp only [trG] at hv3
      split at hv3
      ·rename_i s hj
       simp only [Option.some.injEq] at hv3
       rw [← hv3] at h
       simp only at h
       have hsrd : s ∈ v.rd := by unfold VO.rd; rw [← hv3]; simp
       have hsr := hB.rep s (hread s hsrd).1 (hread s hsrd).2
       obtain ⟨e', hB', h⟩ : ∃ e', InB Ss ops l nA N D i e' L w0 ⟨β, H, F⟩ w a ∧ (match isB (a.tmps.getD s undef) with
         | some t => if t = b then W v.op e' H fun x H => TD W (l.drop (i + 1)) K (Zf e' v.dst x) H else TD W (l.drop (i + 1)) K (Zf e' v.dst (.val undef)) H
         | none => TD W (l.drop (i + 1)) K (Zf e' v.dst (.val undef)) H) := by
        unfold Aab at h
        split at h
        ·rename_i v0 hv0
         rw [hv0, Rep.val] at hsr
         exact ⟨e, hB, by rw [hsr]; exact h⟩
        ·rename_i hany
         refine ⟨(s, .val (a.tmps.getD s undef)) :: e, ⟨fun s' hs1 hs2 => ?_, fun k dk ok gk hfk hLk hk' => ?_, hB.earl, hB.emov, hB.glob, hB.size, hB.defers⟩, ?_⟩
         ·rw [BK]
          split
          ·rename_i hss; subst hss; exact Rep.of_val
          ·exact hB.rep s' hs1 hs2
         ·obtain ⟨es, p1, p2⟩ := hB.pend k dk ok gk hfk hLk hk'
          refine ⟨es, fun s' hs' => ?_, fun K' hK' => p2 K' ?_⟩
          ·rw [BK]
           split
           ·rename_i hss; subst hss
            rcases p1 s hs' with p1 | p1
            ·exact .inr (p1.trans hany)
            ·exact .inr p1
           ·exact p1 s' hs'
          ·rwa [BK, if_neg (fun e => (hread s hsrd).1 k _ hfk hLk hk' (by rw [e]))] at hK'
         ·cases hb : isB (a.tmps.getD s undef) with
          | none => exact h.2 _ hb
          | some t =>
           have : a.tmps.getD s undef = .bool t := by
            generalize a.tmps.getD s undef = v at hb
            cases v <;> simp [isB] at hb
            rw [hb]
           rw [this]; exact h.1 t
        ·exact h.elim
       have hy : yielded ops.toArray a.tmps j = isB (a.tmps.getD s undef) := Yx (by simpa using hj)
       have skip : TD W (l.drop (i + 1)) K (Zf e' v.dst (.val undef)) H → wpAnyIn (fz ro) nn P .any ops.toArray QQ fuel (L.setIfInBounds i true) (a.put o.dst undef) w := fun h => step hB' h hs (AO.refl _ _) Rep.of_val (.inl rfl)
       cases hq : isB (a.tmps.getD s undef) with
       | some t =>
        rw [hq] at h hy
        by_cases htb : t = b
        ·subst htb
         have : Region.wanted o (yielded ops.toArray a.tmps) = true := by simp [Region.wanted, hog, hy]
         rw [if_pos this]
         simp only [if_true] at h
         exact (go hB' h)
        ·have : ¬ (Region.wanted o (yielded ops.toArray a.tmps) = true) := by simp [Region.wanted, hog, hy, htb]
         rw [if_neg this]
         simp only [htb, if_false] at h
         exact ⟨fun _ _ => trivial, skip h⟩
       | none =>
        rw [hq] at h hy
        have : ¬ (Region.wanted o (yielded ops.toArray a.tmps) = true) := by simp [Region.wanted, hog, hy]
        rw [if_neg this]
        exact ⟨fun _ _ => trivial, skip h⟩
      ·cases hv3
    ·-- made ahead of its turn
     have hea : NE (cls ops) l nA i = true := by
      refine Classical.byContradiction fun hne => ?_
      have hmi : m < i := by omega
      rcases hc.wait i hil hin hne m hmi with hw | hw
      ·exact hmL hml (Na hc hd hi hw)
      ·exact hnf m h1 hw.1
     cases hop : EZ (cls ops) l nA i with
     | false =>
      have hmv : EO (cls ops) l nA i = true := by unfold NE at hea; rwa [hop, Bool.false_or] at hea
      obtain ⟨d, t, hnA0, hz, hdt, hwr, hn⟩ := DL hmv
      rw [hv1] at hz; cases hz
      have hod : o.dst = some d := hv4.symm
      have hdN : d < a.tmps.size := by rw [hB.size]; simpa using hd5
      have hg : o.guard = none := by
       cases hog : o.guard with
       | none => rfl
       | some jb => obtain ⟨j, b⟩ := jb; rw [hog] at hv3; simp only [trG] at hv3; split at hv3 <;> simp at hv3
      refine Y8 (all := ops) (x := .val (a.tmps.getD t undef)) (e := [(t, .val (a.tmps.getD t undef))]) hv2 hv3 hs ⟨fun s' => ?_, hs.glob⟩ ?_ ho ?_
      ·rw [BK]
       split
       ·rename_i e; subst e; exact Rep.of_val
       ·exact Rep.any
      ·show Qt P (.p (.mov (.t t))) _ H _
       intro KK hKK
       show KK (get [(t, .val (a.tmps.getD t undef))] t)
       rw [BK, if_pos rfl]; exact hKK
      ·intro β' F' w' u hs' hl' hx
       rw [Rep.val] at hx
       have hm := hl'.mono hs
       rw [hod]
       have hdi : ∀ j, m ≤ j → EO (cls ops) l nA j = true → j ≠ i → j ≠ i := fun _ _ _ h => h
       refine ih m h1 h2 hd' (fun j hj hnj => ⟨fun hjm => hkeep j ((hL j hj hnj).1 hjm), fun hmj hh => (hmono j hh).elim (fun e => e ▸ hea) ((hL j hj hnj).2 hmj)⟩) hF' (by omega) h hs' (hl.trans hl') ⟨fun s hs1 hs2 => ?_, fun k dk ok gk hfk hLk hk' => hB.pend k dk ok gk hfk (fun hh => hLk (hkeep k hh)) hk', ?_, ?_, hB.glob.keep hm.stay, by rw [Uc]; exact hB.size, by rw [KZ]; exact hB.defers⟩ hk
       ·have hsd : d ≠ s := fun e9 => hs2 i _ him hea hset hv1 (by rw [e9])
        rw [D8 (by simpa using hsd)]
        exact Rep.mono hm (hB.rep s (fun k vk hfk hLk hvk => hs1 k vk hfk (fun hh => (hmono k hh).elim (fun e => hnf i hin (e ▸ hfk)) hLk) hvk) (fun k vk hmk hek hLk hvk => hs2 k vk hmk hek (hkeep k hLk) hvk))
       ·refine hB.earl.step hl' (Nat.le_refl _) (fun k dk so hmk hek hz9 _ => ?_) (fun _ => by rw [hop]; simp)
        obtain ⟨_, _, _, _, hz', _, _, _, hn9⟩ := BH hek
        rw [hz9] at hz'; cases hz'
        exact (hn9 i _ hv1 (fun e => by subst e; rw [hv1] at hz9; cases hz9)).1
       ·intro j d' t' hj he hLj hz9
        by_cases hji : j = i
        ·subst hji
         rw [hv1] at hz9; cases hz9
         rw [Xt hdN, D8 (by simpa using hdt)]
         exact hx
        ·exact X7 hll hd hv1 rfl h3' hB.emov hj he hji hLj hz9
     | true =>
      obtain ⟨d, so, z, q, hz, hq, hfit, _, hn⟩ := BH hop
      rw [hv1] at hz; cases hz
      have hod : o.dst = some d := hv4.symm
      have hdN : d < a.tmps.size := by rw [hB.size]; simpa using hd5
      have hg : o.guard = none := by
       cases hog : o.guard with
       | none => rfl
       | some jb => obtain ⟨j, b⟩ := jb; rw [hog] at hv3; simp only [trG] at hv3; split at hv3 <;> simp at hv3
      unfold wpOpIn
      simp only [List.getElem?_toArray, ho]
      have : Region.wanted o (yielded ops.toArray a.tmps) = true := by simp [Region.wanted, hg]
      rw [if_pos this]
      refine Als hv2 hq hfit (fun vs t' hr => ?_) ro nn
      rw [hod]
      obtain ⟨s1, s2⟩ := hs.extra (.cells vs.toArray t' (0, 0))
      have hm := s2.mono hs
      refine ih m h1 h2 hd' (fun j hj hnj => ⟨fun hjm => hkeep j ((hL j hj hnj).1 hjm), fun hmj hh => (hmono j hh).elim (fun e => e ▸ hea) ((hL j hj hnj).2 hmj)⟩) hF' (by omega) h s1 (hl.trans s2) ⟨fun s hs1 hs2 => ?_, fun k dk ok gk hfk hLk hk' => hB.pend k dk ok gk hfk (fun hh => hLk (hkeep k hh)) hk', hB.earl.more hs hl.size hv1 hq hop hr hdN, Sr hll hd hv1 rfl h3' (Nat.le_refl _) (fun j hj he e => by subst e; obtain ⟨_, _, _, hz9, _⟩ := DL he; rw [hv1] at hz9; cases hz9) hB.emov, hB.glob.keep hm.stay, by rw [Uc]; exact hB.size, by rw [KZ]; exact hB.defers⟩ hk
      have hsd : d ≠ s := fun e9 => hs2 i _ him hea hset hv1 (by rw [e9])
      rw [D8 (by simpa using hsd)]
      exact Rep.mono hm (hB.rep s (fun k vk hfk hLk hvk => hs1 k vk hfk (fun hh => (hmono k hh).elim (fun e => hnf i hin (e ▸ hfk)) hLk) hvk) (fun k vk hmk hek hLk hvk => hs2 k vk hmk hek (hkeep k hLk) hvk))

/-- The first part: in any order. -/
structure InA (ops : List Oper) (l : List VO) (nA N : Nat) (D : List Deferred) (xs : List TV) (e0 : Env) (L : Array Bool) (w0 : World) (c : Ctx) (w : World) (a : Act) : Prop where
 did : ∀ i v x d, i < nA → L.getD i false = true → l[i]? = some v → xs[i]? = some x → v.dst = some d → Rep c w x (a.tmps.getD d undef)
 not : ∀ s, (∀ i v, i < nA → L.getD i false = true → l[i]? = some v → v.dst ≠ some s) → (∀ i v, nA ≤ i → NE (cls ops) l nA i = true → L.getD i false = true → l[i]? = some v → v.dst ≠ some s) → Rep c w (get e0 s) (a.tmps.getD s undef)
 earl : Ags ops l nA nA L w0 c w a
 emov : ∀ j d t, nA ≤ j → EO (cls ops) l nA j = true → L.getD j false = true → l[j]? = some ⟨some d, .p (.mov (.t t)), none⟩ → a.tmps.getD d undef = a.tmps.getD t undef
 size : a.tmps.size = N
 defers : a.defers = D

theorem Afo {W : VOp → Env → List Ob → (TV → List Ob → Prop) → Prop} {KP : Value → List Ob → Prop} (hW : WOk P W KP Ss) (hc : Chk Ss ops l nA) (htr : trL bz P N ops ops = some l) {c0 : Ctx} {w0 : World} {QQ : Exit → Act → World → Prop} {K : Env → List Ob → Prop} {e0 : Env} {H : List Ob} {xs : List TV} (hxl : xs.length = nA) (hok : ∀ (i : Nat) o x, (l.take nA)[i]? = some o → xs[i]? = some x → Okq P o (J7 e0 ((l.take nA).take i) (xs.take i)) H x)
  (hK : TD W (l.drop nA) K (J7 e0 (l.take nA) xs) H) : ∀ (fuel : Nat) {β : Nat → Nat → Option (Nat × Nat)} {F : Nat → Prop} {w : World} {a : Act} {L : Array Bool}, AeJ ops L → VQ ops L ≤ fuel →
  (∀ i, i < ops.length → nA ≤ i → L.getD i false = true → NE (cls ops) l nA i = true) → Sim ⟨β, H, F⟩ w → AO c0 w0 ⟨β, H, F⟩ w → InA ops l nA N D xs e0 L w0 ⟨β, H, F⟩ w a →
  AhM N D c0 w0 QQ K KP → wpAnyIn (fz ro) nn P .any ops.toArray QQ fuel L a w := by
 obtain ⟨hll, hlg⟩ := Abp htr
 have hle := hc.le
 have htl : (l.take nA).length = nA := by rw [List.length_take]; omega
 -- what the slots hold when all of the first part is done
 have hfin : ∀ (β : Nat → Nat → Option (Nat × Nat)) (F : Nat → Prop) (w : World) (a : Act) (L : Array Bool) (s : Nat), InA ops l nA N D xs e0 L w0 ⟨β, H, F⟩ w a → (∀ i v, nA ≤ i → NE (cls ops) l nA i = true → L.getD i false = true → l[i]? = some v → v.dst ≠ some s) → (∀ j u, j < nA → l[j]? = some u → u.dst = some s → L.getD j false = true) → Rep ⟨β, H, F⟩ w (get (J7 e0 (l.take nA) xs) s) (a.tmps.getD s undef) := by
  intro β F w a L s hA hse hw
  by_cases hex : ∃ j u, j < nA ∧ l[j]? = some u ∧ u.dst = some s
  ·obtain ⟨j, u, hj, hu, hus⟩ := hex
   have hxj : ∃ x, xs[j]? = some x := ⟨xs[j]'(by omega), by simp [show j < xs.length from by omega]⟩
   obtain ⟨x, hx⟩ := hxj
   have hu' : (l.take nA)[j]? = some u := by rw [List.getElem?_take, if_pos hj]; exact hu
   rw [Ew hu' hx hus fun j' o' ho' hne hd' => hne (by
    rw [List.getElem?_take] at ho'
    split at ho'
    ·rename_i hj'; exact hc.once j' j o' u s hj' hj ho' hu hus hd'
    ·cases ho')]
   exact hA.did j u x s hj (hw j u hj hu hus) hu hx hus
  ·rw [Dh fun j o ho hd => hex ⟨j, o, by
    rw [List.getElem?_take] at ho
    split at ho
    ·rename_i hj; exact ⟨hj, ho, hd⟩
    ·cases ho⟩]
   exact hA.not s (fun i v hi _ hv hd => hex ⟨i, v, hi, hv, hd⟩) hse
 have toB : ∀ (β : Nat → Nat → Option (Nat × Nat)) (F : Nat → Prop) (w : World) (a : Act) (L : Array Bool), AeJ ops L → Sim ⟨β, H, F⟩ w → InA ops l nA N D xs e0 L w0 ⟨β, H, F⟩ w a → (∀ i, i < nA → Ky Ss (cls ops) l nA i ≠ true → L.getD i false = true) → InB Ss ops l nA N D nA (J7 e0 (l.take nA) xs) L w0 ⟨β, H, F⟩ w a := by
  intro β F w a L hd hs hA hall
  refine ⟨fun s hsn hse => hfin β F w a L s hA hse fun j u hj hu hus => ?_, fun i d o g hfi hLi hi => ?_, hA.earl, hA.emov, hs.glob, hA.size, hA.defers⟩
  ·by_cases hLj : L.getD j false = true
   ·exact hLj
   ·by_cases hfj : Ky Ss (cls ops) l nA j = true
    ·exact absurd hus (hsn j u hfj hLj hu)
    ·exact hall j hj hfj
  ·obtain ⟨d', o', g', f1, f0, f2, f3, f4⟩ := CV hfi
   rw [hi] at f1; cases f1
   have hxi : xs[i]? = some (xs[i]'(by omega)) := by simp [show i < xs.length from by omega]
   generalize xs[i]'(by omega) = y at hxi
   have hit : (l.take nA)[i]? = some ⟨some d, .p o, g⟩ := by rw [List.getElem?_take, if_pos f0]; exact hi
   have hq : Okq P ⟨some d, .p o, g⟩ (J7 e0 ((l.take nA).take i) (xs.take i)) H y := hok i _ y hit hxi
   have hgs := Ew (e := e0) hit hxi rfl fun j' o' ho' hne hd' => by
    rw [List.getElem?_take] at ho'
    split at ho'
    ·exact (f4 j' o' d ho' hne hd').1 rfl
    ·cases ho'
   refine ⟨J7 e0 ((l.take nA).take i) (xs.take i), fun s hs' => .inl ?_, fun K' hK' => ?_⟩
   ·-- what it looks at is written by none behind it
    by_cases hex : ∃ j u, j < nA ∧ l[j]? = some u ∧ u.dst = some s
    ·obtain ⟨j, u, hj, hu, hus⟩ := hex
     have hji : j ≠ i := fun h9 => by subst h9; rw [hi] at hu; cases hu; cases hus; exact f3 hs'
     have hjlt : j < i := by
      rcases (f4 j u s hu hji hus).2 with g | g | g
      ·exact absurd hs' g
      ·exact g
      ·omega
     have honce : ∀ (j' : Nat) o', l[j']? = some o' → j' < nA → j' ≠ j → o'.dst ≠ some s := fun j' o' ho' hj' hne hd' => hne (hc.once j' j o' u s hj' hj ho' hu hus hd')
     have hxj : xs[j]? = some (xs[j]'(by omega)) := by simp [show j < xs.length from by omega]
     have hu' : (l.take nA)[j]? = some u := by rw [List.getElem?_take, if_pos hj]; exact hu
     rw [Ew (l := (l.take nA).take i) (i := j) (by rw [List.getElem?_take, if_pos hjlt]; exact hu') (by rw [List.getElem?_take, if_pos hjlt]; exact hxj) hus fun j' o' ho' hne => by
      rw [List.getElem?_take] at ho'
      split at ho'
      ·rw [List.getElem?_take] at ho'
       split at ho'
       ·rename_i hj'; exact honce j' o' ho' hj' hne
       ·cases ho'
      ·cases ho']
     rw [Ew hu' hxj hus fun j' o' ho' hne => by
      rw [List.getElem?_take] at ho'
      split at ho'
      ·rename_i hj'; exact honce j' o' ho' hj' hne
      ·cases ho']
    ·rw [Dh fun j o' ho' hd' => hex ⟨j, o', by
      rw [List.getElem?_take] at ho'
      split at ho'
      ·rw [List.getElem?_take] at ho'
       split at ho'
       ·rename_i hj'; exact ⟨hj', ho', hd'⟩
       ·cases ho'
      ·cases ho'⟩]
     rw [Dh fun j o' ho' hd' => hex ⟨j, o', by
      rw [List.getElem?_take] at ho'
      split at ho'
      ·rename_i hj'; exact ⟨hj', ho', hd'⟩
      ·cases ho'⟩]
   ·rw [hgs] at hK'
    exact Adr hq K' hK'
 intro fuel
 induction fuel with
 | zero =>
  intro β F w a L hd hf hLA hs hl0 hA hk
  have hall : ∀ i, i < ops.length → L.getD i false = true := by
   intro i hi
   have h0 : VQ ops L = 0 := by omega
   unfold VQ at h0
   rw [List.length_eq_zero_iff, List.filter_eq_nil_iff] at h0
   have := h0 i (by simpa using hi)
   simpa using this
  exact AbZ hW hc htr 0 nA (Nat.le_refl _) hle hd (fun i hi hn => ⟨fun h => by omega, fun _ h => hLA i hi hn h⟩) (fun i hi _ => hall i (by omega)) hf hK hs hl0 (toB β F w a L hd hs hA fun i hi _ => hall i (by omega)) hk
 | succ fuel ih =>
  intro β F w a L hd hf hLA hs hl0 hA hk
  by_cases hall : ∀ i, i < nA → Ky Ss (cls ops) l nA i ≠ true → L.getD i false = true
  ·exact AbZ hW hc htr (fuel + 1) nA (Nat.le_refl _) hle hd (fun i hi hn => ⟨fun h => by omega, fun _ h => hLA i hi hn h⟩) hall hf hK hs hl0 (toB β F w a L hd hs hA hall) hk
  ·refine ⟨fun h0 => absurd (fun i hi _ => Zi hc hd h0 i (by omega)) hall, fun i hi => ?_⟩
   obtain ⟨o, ho, h3, h4⟩ := H7 hi
   have hil : i < ops.length := (List.getElem?_eq_some_iff.1 ho).1
   have hiL : i < L.size := by rw [hd.size]; exact hil
   obtain ⟨v, hv1, hv2, hv3, hv4, hv5⟩ := hlg i o ho
   have hd5 : v.dst.all (· < N) = true := by rw [hv4]; exact hv5
   have hd' := hd.set hi
   have hu := AaQ hd hi
   have hmono : ∀ j, (L.setIfInBounds i true).getD j false = true → j = i ∨ L.getD j false = true := by
    intro j hj
    by_cases hij : i = j
    ·exact .inl hij.symm
    ·right
     rw [Array.getD_eq_getD_getElem?, Array.getElem?_setIfInBounds_ne hij, ← Array.getD_eq_getD_getElem?] at hj; exact hj
   have hkeep : ∀ j, L.getD j false = true → (L.setIfInBounds i true).getD j false = true := by
    intro j hj
    by_cases hij : i = j
    ·subst hij; simp [hiL]
    ·rw [Array.getD_eq_getD_getElem?, Array.getElem?_setIfInBounds_ne hij, ← Array.getD_eq_getD_getElem?]; exact hj
   have hset : (L.setIfInBounds i true).getD i false = true := by simp [hiL]
   have h3' : ¬ (L.getD i false = true) := by
    rw [Array.getD_eq_getD_getElem?, Array.getElem?_eq_getElem hiL] at h3 ⊢; simp at h3 ⊢; exact h3
   rcases Nat.lt_or_ge i nA with hiA | hiA
   case inr =>
    have hea' : NE (cls ops) l nA i = true := by
     refine Classical.byContradiction fun hne => ?_
     exact absurd (fun k hk hfk => Na hc hd hi ((hc.wait i hil hiA hne k (by omega)).resolve_right fun h9 => hfk h9.1)) hall
    cases hop : EZ (cls ops) l nA i with
    | false =>
     have hmv : EO (cls ops) l nA i = true := by unfold NE at hea'; rwa [hop, Bool.false_or] at hea'
     obtain ⟨d, t, _, hz, hdt, hwr, hn⟩ := DL hmv
     rw [hv1] at hz; cases hz
     have hod : o.dst = some d := hv4.symm
     have hdN : d < a.tmps.size := by rw [hA.size]; simpa using hd5
     have hg : o.guard = none := by
      cases hog : o.guard with
      | none => rfl
      | some jb => obtain ⟨j, b⟩ := jb; rw [hog] at hv3; simp only [trG] at hv3; split at hv3 <;> simp at hv3
     refine Y8 (all := ops) (x := .val (a.tmps.getD t undef)) (e := [(t, .val (a.tmps.getD t undef))]) hv2 hv3 hs ⟨fun s' => ?_, hs.glob⟩ ?_ ho ?_
     ·rw [BK]
      split
      ·rename_i e; subst e; exact Rep.of_val
      ·exact Rep.any
     ·show Qt P (.p (.mov (.t t))) _ H _
      intro KK hKK
      show KK (get [(t, .val (a.tmps.getD t undef))] t)
      rw [BK, if_pos rfl]; exact hKK
     ·intro β' F' w' u hs' hl' hx
      rw [Rep.val] at hx
      have hm := hl'.mono hs
      rw [hod]
      have hlt : ∀ j, j < nA → (L.setIfInBounds i true).getD j false = true → L.getD j false = true := fun j hj hh => (hmono j hh).resolve_left (by omega)
      refine ih hd' (by omega) (fun j hj hnj hh => (hmono j hh).elim (fun e => e ▸ hea') (hLA j hj hnj)) hs' (hl0.trans hl') ⟨fun j v x d' hj hLj hv' hx' hd'' => ?_, fun s hsn hse => ?_, ?_, ?_, by rw [Uc]; exact hA.size, by rw [KZ]; exact hA.defers⟩ hk
      ·have hne : d ≠ d' := fun e9 => (hn j v hv' (by omega)).1 (by rw [hd'', e9])
       rw [D8 (by simpa using hne)]
       exact Rep.mono hm (hA.did j v x d' hj (hlt j hj hLj) hv' hx' hd'')
      ·have hne : d ≠ s := fun e9 => hse i _ hiA hea' hset hv1 (by rw [e9])
       rw [D8 (by simpa using hne)]
       exact Rep.mono hm (hA.not s (fun j v hj hLj hv' => hsn j v hj (hkeep j hLj) hv') (fun j v hj hej hLj hv' => hse j v hj hej (hkeep j hLj) hv'))
      ·refine hA.earl.step hl' (Nat.le_refl _) (fun k dk so hmk hek hz9 _ => ?_) (fun _ => by rw [hop]; simp)
       obtain ⟨_, _, _, _, hz', _, _, _, hn9⟩ := BH hek
       rw [hz9] at hz'; cases hz'
       exact (hn9 i _ hv1 (fun e => by subst e; rw [hv1] at hz9; cases hz9)).1
      ·intro j d' t' hj he hLj hz9
       by_cases hji : j = i
       ·subst hji
        rw [hv1] at hz9; cases hz9
        rw [Xt hdN, D8 (by simpa using hdt)]
        exact hx
       ·exact X7 hll hd hv1 rfl h3' hA.emov hj he hji hLj hz9
    | true =>
    have hea : EZ (cls ops) l nA i = true := hop
    obtain ⟨d, so, z, q, hz, hq, hfit, _, hn⟩ := BH hea
    rw [hv1] at hz; cases hz
    have hod : o.dst = some d := hv4.symm
    have hdN : d < a.tmps.size := by rw [hA.size]; simpa using hd5
    have hg : o.guard = none := by
     cases hog : o.guard with
     | none => rfl
     | some jb => obtain ⟨j, b⟩ := jb; rw [hog] at hv3; simp only [trG] at hv3; split at hv3 <;> simp at hv3
    unfold wpOpIn
    simp only [List.getElem?_toArray, ho]
    have : Region.wanted o (yielded ops.toArray a.tmps) = true := by simp [Region.wanted, hg]
    rw [if_pos this]
    refine Als hv2 hq hfit (fun vs t' hr => ?_) ro nn
    rw [hod]
    obtain ⟨s1, s2⟩ := hs.extra (.cells vs.toArray t' (0, 0))
    have hm := s2.mono hs
    have hlt : ∀ j, j < nA → (L.setIfInBounds i true).getD j false = true → L.getD j false = true := fun j hj hh => (hmono j hh).resolve_left (by omega)
    refine ih hd' (by omega) (fun j hj hnj hh => (hmono j hh).elim (fun e => e ▸ hea') (hLA j hj hnj)) s1 (hl0.trans s2) ⟨fun j v x d' hj hLj hv' hx' hd'' => ?_, fun s hsn hse => ?_, hA.earl.more hs hl0.size hv1 hq hea hr hdN, Sr hll hd hv1 rfl h3' (Nat.le_refl _) (fun j hj he e => by subst e; obtain ⟨_, _, _, hz9, _⟩ := DL he; rw [hv1] at hz9; cases hz9) hA.emov, by rw [Uc]; exact hA.size, by rw [KZ]; exact hA.defers⟩ hk
    ·have hne : d ≠ d' := fun e9 => (hn j v hv' (by omega)).1 (by rw [hd'', e9])
     rw [D8 (by simpa using hne)]
     exact Rep.mono hm (hA.did j v x d' hj (hlt j hj hLj) hv' hx' hd'')
    ·have hne : d ≠ s := fun e9 => hse i _ hiA hea' hset hv1 (by rw [e9])
     rw [D8 (by simpa using hne)]
     exact Rep.mono hm (hA.not s (fun j v hj hLj hv' => hsn j v hj (hkeep j hLj) hv') (fun j v hj hej hLj hv' => hse j v hj hej (hkeep j hLj) hv'))
   have hxi : xs[i]? = some (xs[i]'(by omega)) := by simp [show i < xs.length from by omega]
   generalize hxx : xs[i]'(by omega) = x at hxi
   have hvt : (l.take nA)[i]? = some v := by rw [List.getElem?_take, if_pos hiA]; exact hv1
   have hrde : ∀ s ∈ v.rd, ∀ k u, nA ≤ k → NE (cls ops) l nA k = true → L.getD k false = true → l[k]? = some u → u.dst ≠ some s := by
    intro s hsr k u hnk hek _ hu hud
    obtain ⟨_, _, hz, _, hn⟩ := XW hek
    rw [hz] at hu; cases hu; cases hud
    have := Xq hc hil ((hn i v hv1 (by omega)).2 hsr); omega
   -- what it reads is there
   have hrd : ∀ s ∈ v.rd, ∀ j u, j < nA → l[j]? = some u → u.dst = some s → ((cls ops).getD i 0).testBit j = true ∨ ((cls ops).getD j 0).testBit i = true := fun s hs' j u hj hu hus => hc.read i j v u s hiA hj hv1 hu hus hs'
   have hokf : Okq P v (forget v.rd (J7 e0 ((l.take nA).take i) (xs.take i))) H x := by
    refine AcJ (fun s hs' => ?_) (hok i v x hvt hxi)
    rw [EJ, if_pos hs']
   have henv : A8 ⟨β, H, F⟩ w (forget v.rd (J7 e0 ((l.take nA).take i) (xs.take i))) a := by
    refine ⟨fun s => ?_, hs.glob⟩
    rw [EJ]
    split
    ·rename_i hs'
     by_cases hex : ∃ j u, j < nA ∧ l[j]? = some u ∧ u.dst = some s
     ·obtain ⟨j, u, hj, hu, hus⟩ := hex
      have honce : ∀ (j' : Nat) o', l[j']? = some o' → j' < nA → j' ≠ j → o'.dst ≠ some s := fun j' o' ho' hj' hne hd' => hne (hc.once j' j o' u s hj' hj ho' hu hus hd')
      rcases hrd s hs' j u hj hu hus with hb | hb
      ·have hji : j < i := Xq hc hil hb
       have hxj : xs[j]? = some (xs[j]'(by omega)) := by simp [show j < xs.length from by omega]
       have hu' : (l.take nA)[j]? = some u := by rw [List.getElem?_take, if_pos hj]; exact hu
       rw [Ew (l := (l.take nA).take i) (i := j) (by rw [List.getElem?_take, if_pos hji]; exact hu') (by rw [List.getElem?_take, if_pos hji]; exact hxj) hus fun j' o' ho' hne => by
        rw [List.getElem?_take] at ho'
        split at ho'
        ·rw [List.getElem?_take] at ho'
         split at ho'
         ·rename_i hj'; exact honce j' o' ho' hj' hne
         ·cases ho'
        ·cases ho']
       exact hA.did j u _ s hj (Na hc hd hi hb) hu hxj hus
      ·have hij : i < j := Xq hc (by omega) hb
       have hLj : L.getD j false ≠ true := by
        intro hLj
        have hjl : j < (cls ops).length := by rw [Ub]; omega
        have hmj : (cls ops)[j]? = some ((cls ops).getD j 0) := by
         rw [List.getD_eq_getElem?_getD, List.getElem?_eq_getElem hjl]; rfl
        have hoj : ops[j]? = some (ops[j]'(by omega)) := List.getElem?_eq_getElem (by omega)
        have hLi := AdY hmj hoj hd.closed (hd.closed j _ hoj hLj) hb
        have hLi' : L.getD i false = true := hLi
        rw [Array.getD_eq_getD_getElem?, Array.getElem?_eq_getElem hiL] at h3 hLi'
        simp at h3 hLi'; rw [h3] at hLi'; cases hLi'
       rw [Dh fun j' o' ho' hd' => by
        rw [List.getElem?_take] at ho'
        split at ho'
        ·rename_i hj'i
         rw [List.getElem?_take] at ho'
         split at ho'
         ·rename_i hj'; exact honce j' o' ho' hj' (by omega) hd'
         ·cases ho'
        ·cases ho']
       exact hA.not s (fun i' v' hi' hL' hv' hd'' => by
        by_cases he : i' = j
        ·exact hLj (he ▸ hL')
        ·exact honce i' v' hv' hi' he hd'') (hrde s hs')
     ·rw [Dh fun j o' ho' hd' => hex ⟨j, o', by
       rw [List.getElem?_take] at ho'
       split at ho'
       ·rw [List.getElem?_take] at ho'
        split at ho'
        ·rename_i hj'; exact ⟨hj', ho', hd'⟩
        ·cases ho'
       ·cases ho'⟩]
      exact hA.not s (fun i' v' hi' _ hv' hd'' => hex ⟨i', v', hi', hv', hd''⟩) (hrde s hs')
    ·exact Rep.any
   refine Y8 (all := ops) hv2 hv3 hs henv hokf ho ?_
   intro β' F' w' u hs' hl hx
   have hm := hl.mono hs
   have hput : ∀ s, o.dst ≠ some s → (a.put o.dst u).tmps.getD s undef = a.tmps.getD s undef := by
    intro s hne
    cases hod : o.dst with
    | none => rfl
    | some d =>
     have : d ≠ s := fun e => hne (by rw [hod, e])
     show (a.tmps.setIfInBounds d u).getD s undef = _
     simp [Array.getElem?_setIfInBounds_ne this]
   refine ih hd' (by omega) (fun j hj hnj hLj => hLA j hj hnj ((hmono j hLj).resolve_left (by omega))) hs' (hl0.trans hl) ⟨fun j v' x' d hj hLj hv' hx' hd'' => ?_, fun s hsn hse => ?_, ?_, Sr hll hd hv1 hv4 h3' (Nat.le_refl _) (fun j hj he e => by omega) hA.emov, ?_, ?_⟩ hk
   ·by_cases hji : j = i
    ·subst hji
     rw [hv1] at hv'; cases hv'
     rw [hxi] at hx'; cases hx'
     have hod : o.dst = some d := by rw [← hv4]; exact hd''
     have hdN : d < a.tmps.size := by rw [hA.size]; rw [hod] at hv5; simpa using hv5
     have : (a.put o.dst u).tmps.getD d undef = u := by
      rw [hod]; show (a.tmps.setIfInBounds d u).getD d undef = u
      simp [hdN]
     rw [this]; exact hx
    ·have hne : o.dst ≠ some d := fun e => hji (hc.once j i v' v d hj hiA hv' hv1 (by rw [hv4]; exact e) hd'')
     rw [hput d hne]
     exact Rep.mono hm (hA.did j v' x' d hj ((hmono j hLj).resolve_left hji) hv' hx' hd'')
   ·have hne : o.dst ≠ some s := fun e => hsn i v hiA (by simp [hiL]) hv1 (by rw [hv4]; exact e)
    rw [hput s hne]
    exact Rep.mono hm (hA.not s (fun j v' hj hLj hv' => hsn j v' hj (hkeep j hLj) hv') (fun j v' hj hej hLj hv' => hse j v' hj hej (hkeep j hLj) hv'))
   ·refine hA.earl.step hl (Nat.le_refl _) (fun k dk so hmk hek hz _ => ?_) (fun h9 => by omega)
    obtain ⟨_, _, _, _, hz', _, _, _, hn⟩ := BH hek
    rw [hz] at hz'; cases hz'
    rw [← hv4]; exact (hn i v hv1 (by omega)).1
   ·cases hod : o.dst with
    | none => exact hA.size
    | some d => simp [Act.put, hA.size]
   ·cases hod : o.dst <;> exact hA.defers

def AbK (f : Nat → Nat) (o : Oper) : Oper := { o with after := o.after.map (fun e => { e with on := f e.on }), guard := o.guard.map fun q => (f q.1, q.2) }
def Bh (ops : List Oper) (π : List Nat) : List Oper := π.map fun i => AbK (fun j => π.idxOf j) (ops.getD i default)
def V8 (π : List Nat) (n : Nat) : Bool := decide (π.length = n) && decide π.Nodup && π.all (· < n) && (List.range n).all (π.contains ·)
theorem ZK {f : Nat → Nat} {o : Oper} : Un (AbK f o) = (Un o).map f := by
 unfold Un AbK
 simp only [Array.toList_map, List.filter_map, List.map_map]
 congr 1
theorem XM {a : Nat} : ∀ {l : List Nat}, ¬ a ∈ l → l.idxOf a = l.length
 | [], _ => rfl
 | b :: l, h => by
  rw [List.mem_cons, not_or] at h
  rw [List.idxOf_cons, XM h.2]
  have : (b == a) = false := by simpa using fun e => h.1 e.symm
  rw [this]; rfl
theorem Ajd {π : List Nat} (hp : V8 π ops.length = true) {F : Fence} {QQ : Exit → Act → World → Prop} : ∀ (fuel : Nat) {L L' : Array Bool} {a : Act} {w : World}, L.size = ops.length → L'.size = ops.length → (∀ i, i < ops.length → L'.getD (π.idxOf i) false = L.getD i false) →
  wpAnyIn F nn P .any (Bh ops π).toArray QQ fuel L' a w → wpAnyIn F nn P .any ops.toArray QQ fuel L a w := by
 unfold V8 at hp
 simp only [Bool.and_eq_true, decide_eq_true_eq, List.all_eq_true, List.mem_range] at hp
 obtain ⟨⟨⟨h1, h2⟩, h3⟩, h4⟩ := hp
 have hmem : ∀ i, i < ops.length → i ∈ π := fun i hi => by have := h4 i hi; simpa using this
 have hpos : ∀ i, i < ops.length → π.idxOf i < ops.length := fun i hi => by rw [← h1]; exact List.idxOf_lt_length_of_mem (hmem i hi)
 have hat : ∀ i, i < ops.length → π[π.idxOf i]? = some i := fun i hi => by
  have hlt := List.idxOf_lt_length_of_mem (hmem i hi)
  rw [List.getElem?_eq_getElem hlt, List.getElem_idxOf hlt]
 have hback : ∀ q (hq : q < π.length), π.idxOf π[q] = q := fun q hq => h2.idxOf_getElem q hq
 have hops : ∀ i o, ops[i]? = some o → (Bh ops π)[π.idxOf i]? = some (AbK (fun j => π.idxOf j) o) := fun i o ho => by
  have hi : i < ops.length := (List.getElem?_eq_some_iff.1 ho).1
  unfold Bh
  rw [List.getElem?_map, hat i hi]
  simp [List.getD_eq_getElem?_getD, ho]
 have hlen : (Bh ops π).length = ops.length := by unfold Bh; rw [List.length_map, h1]
 have hops2 : ∀ q o, (Bh ops π)[q]? = some o → ∃ i o', π.idxOf i = q ∧ ops[i]? = some o' ∧ o = AbK (fun j => π.idxOf j) o' := fun q o ho => by
  have hq : q < π.length := by have := (List.getElem?_eq_some_iff.1 ho).1; rw [hlen] at this; omega
  have hi := h3 π[q] (List.getElem_mem hq)
  refine ⟨π[q], ops[π[q]], hback q hq, List.getElem?_eq_getElem hi, ?_⟩
  have := hops π[q] _ (List.getElem?_eq_getElem hi)
  rw [hback q hq, ho] at this
  exact Option.some.inj this
 have hD : ∀ {L : Array Bool} {i : Nat}, i < L.size → (L.getD i true = false ↔ L.getD i false = false) := fun {L i} hi => by
  rw [Array.getD_eq_getD_getElem?, Array.getD_eq_getD_getElem?, Array.getElem?_eq_getElem hi]; rfl
 have hlt : ∀ {L : Array Bool} {i : Nat}, L.size = ops.length → L.getD i false = true → i < ops.length := fun {L i} hs hi => by
  rcases Nat.lt_or_ge i L.size with h | h
  ·omega
  ·rw [Array.getD_eq_getD_getElem?, Array.getElem?_eq_none h] at hi; cases hi
 -- what is ready here is ready there
 have go : ∀ {L L' : Array Bool}, L.size = ops.length → L'.size = ops.length → (∀ i, i < ops.length → L'.getD (π.idxOf i) false = L.getD i false) → ∀ i, i ∈ Region.ready .any ops.toArray L → π.idxOf i ∈ Region.ready .any (Bh ops π).toArray L' := by
  intro L L' hL hL' hLL i hi
  obtain ⟨o, ho, g1, g2⟩ := H7 hi
  have hil : i < ops.length := (List.getElem?_eq_some_iff.1 ho).1
  refine Abq (hops i o ho) ?_ ?_
  ·exact (hD (by rw [hL']; exact hpos i hil)).2 (by rw [hLL i hil]; exact (hD (by omega)).1 g1)
  ·intro q hq
   rw [ZK] at hq
   obtain ⟨j, hj, rfl⟩ := List.mem_map.1 hq
   have := g2 j hj
   rw [hLL j (hlt hL this)]; exact this
 have back : ∀ {L L' : Array Bool}, L.size = ops.length → L'.size = ops.length → (∀ i, i < ops.length → L'.getD (π.idxOf i) false = L.getD i false) → ∀ q, q ∈ Region.ready .any (Bh ops π).toArray L' → ∃ i, i ∈ Region.ready .any ops.toArray L := by
  intro L L' hL hL' hLL q hq
  obtain ⟨o, ho, g1, g2⟩ := H7 hq
  obtain ⟨i, o', rfl, ho', rfl⟩ := hops2 q o ho
  have hil : i < ops.length := (List.getElem?_eq_some_iff.1 ho').1
  refine ⟨i, Abq ho' ?_ ?_⟩
  ·exact (hD (by omega)).2 (by rw [← hLL i hil]; exact (hD (by rw [hL']; exact hpos i hil)).1 g1)
  ·intro j hj
   have hj' : π.idxOf j ∈ Un (AbK (fun j => π.idxOf j) o') := by rw [ZK]; exact List.mem_map_of_mem hj
   have h9 := g2 _ hj'
   have hjl : j < ops.length := by
    refine Classical.byContradiction fun hn => ?_
    have : π.idxOf j = π.length := XM (fun hm => hn (h3 j hm))
    have h10 := hlt hL' h9
    omega
   rw [← hLL j hjl]; exact h9
 have hy : ∀ {tmps : Array Value} {j : Nat}, yielded (Bh ops π).toArray tmps (π.idxOf j) = yielded ops.toArray tmps j := by
  intro tmps j
  unfold yielded
  by_cases hj : j < ops.length
  ·have := hops j _ (List.getElem?_eq_getElem hj)
   simp only [List.getElem?_toArray, this, List.getElem?_eq_getElem hj]
   rfl
  ·have h9 : π.idxOf j = π.length := XM (fun hm => hj (h3 j hm))
   simp only [List.getElem?_toArray]
   rw [List.getElem?_eq_none (l := Bh ops π) (by rw [hlen]; omega), List.getElem?_eq_none (l := ops) (by omega)]
 intro fuel
 induction fuel with
 | zero =>
  intro L L' a w hL hL' hLL h
  refine ⟨?_, h.2⟩
  rw [List.eq_nil_iff_forall_not_mem]
  intro i hi
  have := go hL hL' hLL i hi
  rw [h.1] at this; cases this
 | succ fuel ih =>
  intro L L' a w hL hL' hLL h
  refine ⟨fun h0 => h.1 ?_, fun i hi => ?_⟩
  ·rw [List.eq_nil_iff_forall_not_mem]
   intro q hq
   obtain ⟨i, hi⟩ := back hL hL' hLL q hq
   rw [h0] at hi; cases hi
  ·have h9 := h.2 _ (go hL hL' hLL i hi)
   obtain ⟨o, ho, _, _⟩ := H7 hi
   have hil : i < ops.length := (List.getElem?_eq_some_iff.1 ho).1
   have hset : ∀ j, j < ops.length → (L'.setIfInBounds (π.idxOf i) true).getD (π.idxOf j) false = (L.setIfInBounds i true).getD j false := by
    intro j hj
    by_cases e : i = j
    ·subst e
     have e1 := hpos i hil
     simp [hL, hL', hil, e1]
    ·have e2 : π.idxOf i ≠ π.idxOf j := fun e3 => e (by
      have a1 := hat i hil
      have a2 := hat j hj
      rw [e3, a2] at a1; exact (Option.some.inj a1).symm)
     rw [Array.getD_eq_getD_getElem?, Array.getElem?_setIfInBounds_ne e2, ← Array.getD_eq_getD_getElem?, Array.getD_eq_getD_getElem? (xs := L.setIfInBounds i true), Array.getElem?_setIfInBounds_ne e, ← Array.getD_eq_getD_getElem?]
     exact hLL j hj
   have h10 : wpOpIn F nn P (Bh ops π).toArray QQ (π.idxOf i) (wpAnyIn F nn P .any ops.toArray QQ fuel (L.setIfInBounds i true)) a w :=
    wpOpIn_mono (fun a w h => ih (by simpa using hL) (by simpa using hL') hset h) h9
   unfold wpOpIn at h10 ⊢
   simp only [List.getElem?_toArray, hops i o ho, ho] at h10 ⊢
   have hw : Region.wanted (AbK (fun j => π.idxOf j) o) (yielded (Bh ops π).toArray a.tmps) = Region.wanted o (yielded ops.toArray a.tmps) := by
    unfold Region.wanted AbK
    cases hg : o.guard with
    | none => rfl
    | some q => simp only [Option.map_some, hy]
   rw [hw] at h10
   exact h10

theorem Aer {W : VOp → Env → List Ob → (TV → List Ob → Prop) → Prop} {KP : Value → List Ob → Prop} (hW : WOk P W KP Ss) {all : List Oper} (htr : trL bz P N all all = some l) (hc : FK Ss all l nA = true) {K : Env → List Ob → Prop} {e : Env} {H : List Ob} {β : Nat → Nat → Option (Nat × Nat)} {F : Nat → Prop} {w : World} {a : Act} {QQ : Exit → Act → World → Prop}
  (h : vq P (l.take nA) (fun e => TD W (l.drop nA) K e H) e H) (hs : Sim ⟨β, H, F⟩ w) (hf : Fr N D ⟨β, H, F⟩ w e a)
  (hk : AhM N D ⟨β, H, F⟩ w QQ K KP) : wpAnyIn (fz ro) nn P .any all.toArray QQ all.length (Array.replicate all.length false) a { w with drawn := w.drawn + 1 } := by
 have hck := Chk.of hc
 obtain ⟨xs, h1, h2, h3⟩ := Aly h
 have hll := (Abp htr).1
 have hle := hck.le
 have hxl : xs.length = nA := by
  rw [h1, List.length_take]
  have : l.length = all.length := hll
  have : nA ≤ all.length := hle
  omega
 have h0 : ∀ i, (Array.replicate all.length false).getD i false = false := by
  intro i; simp [Array.getD_eq_getD_getElem?, Array.getElem?_replicate]; split <;> rfl
 have hs0 : Sim ⟨β, H, F⟩ { w with drawn := w.drawn + 1 } := hs.heap rfl
 have hl0 : AO ⟨β, H, F⟩ w ⟨β, H, F⟩ { w with drawn := w.drawn + 1 } := AO.heap rfl rfl rfl rfl
 refine Afo hW (ops := all) hck htr hxl h3 h2 all.length ⟨by simp, fun i o ho hi => by
  have hi' : (Array.replicate all.length false).getD i false = true := hi
  rw [h0] at hi'; cases hi'⟩ ?_ (fun i hi _ hL => by
  have hL' : (Array.replicate all.length false).getD i false = true := hL
  rw [h0] at hL'; cases hL') hs0 hl0 ⟨fun i v x d hi hL => (by
  have hL' : (Array.replicate all.length false).getD i false = true := hL
  rw [h0] at hL'; cases hL'), fun s _ _ => Rep.mono (hl0.mono hs) (hf.env.1 s), Ags.empty fun i _ _ hL => (by
  have hL' : (Array.replicate all.length false).getD i false = true := hL
  rw [h0] at hL'; cases hL'), (fun j d t _ _ hL => by
  have hL' : (Array.replicate all.length false).getD j false = true := hL
  rw [h0] at hL'; cases hL'), hf.size, hf.defers⟩ hk
 unfold VQ
 exact Nat.le_trans (List.length_filter_le _ _) (by simp)
theorem Aao {W : VOp → Env → List Ob → (TV → List Ob → Prop) → Prop} {KP : Value → List Ob → Prop} (hW : WOk P W KP Ss) {id : Nat} {all : Array Oper} (hm : P.follows .mixedOrders = true) (htr : trL bz P N all.toList all.toList = some l) (hc : FK Ss all.toList l nA = true) {K : Env → List Ob → Prop} {e : Env} {H : List Ob} {β : Nat → Nat → Option (Nat × Nat)} {F : Nat → Prop} {w : World} {a : Act} {QQ : Exit → Act → World → Prop}
  (h : vq P (l.take nA) (fun e => TD W (l.drop nA) K e H) e H) (hs : Sim ⟨β, H, F⟩ w) (hf : Fr N D ⟨β, H, F⟩ w e a)
  (hk : AhM N D ⟨β, H, F⟩ w QQ K KP) : (Code.region id all true).wpIn (fz ro) nn P QQ a w := by
 obtain ⟨all⟩ := all
 exact wpIn_region_any hm (Aer hW htr hc h hs hf hk)
/-- What looks at something and waits for nothing that changes something: first. -/
def Aqz (v : VO) : Bool := match v.op with
 | .s (.bstr _ _) => true
 | _ => false
def isP (v : VO) : Bool := match v.op with
 | .p _ => true
 | _ => false
def AfR : List Oper → List VO → Nat → List Nat → List Nat
 | o :: ops, v :: l, i, acc => AfR ops l (i + 1) (if isP v && (Un o).all acc.contains then acc ++ [i] else acc)
 | _, _, _, acc => acc
def Aq8 (ops : List Oper) (l : List VO) : List Nat :=
 let a := AfR ops l 0 []
 a ++ (List.range ops.length).filter fun i => !a.contains i
theorem VE {W : VOp → Env → List Ob → (TV → List Ob → Prop) → Prop} {KP : Value → List Ob → Prop} (hW : WOk P W KP Ss) {id : Nat} {all : Array Oper} {π : List Nat} (hm : P.follows .mixedOrders = true) (hp : V8 π all.toList.length = true) (htr : trL bz P N (Bh all.toList π) (Bh all.toList π) = some l) (hc : FK Ss (Bh all.toList π) l nA = true) {K : Env → List Ob → Prop} {e : Env} {H : List Ob} {β : Nat → Nat → Option (Nat × Nat)} {F : Nat → Prop} {w : World} {a : Act} {QQ : Exit → Act → World → Prop}
  (h : vq P (l.take nA) (fun e => TD W (l.drop nA) K e H) e H) (hs : Sim ⟨β, H, F⟩ w) (hf : Fr N D ⟨β, H, F⟩ w e a)
  (hk : AhM N D ⟨β, H, F⟩ w QQ K KP) : (Code.region id all true).wpIn (fz ro) nn P QQ a w := by
 obtain ⟨all⟩ := all
 have hlen : (Bh all π).length = all.length := by
  unfold V8 at hp
  simp only [Bool.and_eq_true, decide_eq_true_eq] at hp
  unfold Bh; rw [List.length_map]; exact hp.1.1.1
 refine wpIn_region_any hm ?_
 refine Ajd (ops := all) hp all.length (by simp) (by simp) (fun i hi => ?_) (L' := Array.replicate all.length false) ?_
 ·have h0 : ∀ i, (Array.replicate all.length false).getD i false = false := by
   intro i; simp [Array.getD_eq_getD_getElem?, Array.getElem?_replicate]; split <;> rfl
  rw [h0]; exact (h0 i).symm
 ·have   := Aer hW (ro := ro) (nn := nn) htr hc h hs hf hk
  have hl2 : (Bh ({ toList := all } : Array Oper).toList π).length = all.length := hlen
  rw [hl2] at this
  exact this
end sound
end Go.Proofs.YtingoaihnlhiaaaDoor


namespace Go.Proofs.YtingoaihnlhiaaaDoor
open Go.RowKit
variable [Bc]
set_option linter.unusedSectionVars false
set_option linter.unusedSimpArgs false
set_option linter.unusedVariables false
set_option autoImplicit false

inductive Af where
 | ops (l : List VO) (keep : List Nat)
 /-- the order is open; the first nA change no object, and the others wait for all -/
 | draw (nA : Nat) (l : List VO) (keep : List Nat)
 | skip
 /-- operations; behind the first of them rows in some slots are given away -/
 | opsZ (l : List VO) (zs : List Nat) (r : List VO) (keep : List Nat)
 /-- operations of which one may end in a panic -/
 | pops (l : List VO) (keep : List Nat)
 | pdraw (n : Nat) (l : List VO) (keep : List Nat)
 /-- the same; what is Tt at while a call goes on is left aS it is by that call -/
 | sdraw (n : Nat) (l : List VO) (keep : List Nat)
 | seq (a b : Af)
 | cond (c : Opd) (a b : Af)
 | block (id : Nat) (c : Af)
 | loop (live : List Nat) (c : Af)
 | exit (id : Nat)
 | ret
 | scope (c : Af)
 /-- (nothing is done) a nil slice in a slot is Tt at aS an object of one's own that has no cells yet -/
 | own (s k : Nat) (c : Af)
 /-- (nothing is done) the same of a nil slice within an object -/
 | ownB (s : Nat) (p : List (Nat × Nat)) (k : Nat) (c : Af)
 /-- (nothing is done) the same of a nil slice of one-cell elements within an object; what type its blocks will have is kept in mind -/
 | ownT (s : Nat) (p : List (Nat × Nat)) (t : TypeId) (c : Af)
 /-- (nothing is done) a row of one's own in a slot is given away: it stays aS it is from now on -/
 | frz (s : Nat) (c : Af)
 /-- a loop over a function: the parameters' slots; the assignments to the left sides; the body -/
 | rfunc (f : Opd) (ps : List Nat) (aS bd : Af)
 /-- what this machine does not know: nothing is said of it -/
 | dead
 deriving Inhabited

/-- Rows of one's own, in these slots, are given away. -/
def Ane : List Nat → (Env → List Ob → Prop) → Env → List Ob → Prop
 | [], K, e, H => K e H
 | s :: zs, K, e, H => match get e s with
  | .os k id ver p off n _ => (match H[id]? with
   | some (.obj v x) => v = ver ∧ (match Ea p k off n x with
    | some cs => Ane zs K ((s, .sl k cs) :: e) (H.set id (.gone ver))
    | none => False)
   | _ => False)
  | _ => False
/-- Without what was laid beside it. -/
def er : Af → Af
 | .ops l _ => .ops l []
 | .draw n l _ => .draw n l []
 | .opsZ l _ r _ => .ops (l ++ r) []
 | .pops l _ => .ops l []
 | .pdraw n l _ => .draw n l []
 | .sdraw n l _ => .sdraw n l []
 | .seq a b => .seq (er a) (er b)
 | .cond c a b => .cond c (er a) (er b)
 | .block id c => .block id (er c)
 | .loop _ c => .loop [] (er c)
 | .scope c => .scope (er c)
 | .own _ _ c => er c
 | .ownB _ _ _ c => er c
 | .ownT _ _ _ c => er c
 | .frz _ c => er c
 | .rfunc f ps aS bd => .rfunc f ps (er aS) (er bd)
 | .skip => .skip
 | .exit id => .exit id
 | .ret => .ret
 | .dead => .dead

/-- A panic of the text's own stands in it, or it writes. -/
def YC : Code → Bool
 | .seq a b => YC a || YC b
 | .cond _ a b => YC a || YC b
 | .block _ c => YC c
 | .loop c => YC c
 | .scope c => YC c
 | .region _ ops _ => ops.toList.any fun o => match o.op with | .panic _ => true | .store .. => true | _ => false
 | _ => false
/-- A call of a function that panics, or writes. -/
def AlC (P : Program) (v : VO) : Bool := match v.op with
 | .s (.call f _) => (match P.funcs[f]? with | some fn => fn.body.any YC | none => false)
 | .s (.store _ _ _) => true
 | _ => false
/-- Which operations are to be AbA: none that panics, if what they look at may be Tt at later on. -/
def Abs (P : Program) (ops : List Oper) (l : List VO) (n : Nat) : Option Af := match (List.range (n + 1)).find? (FK [] ops l) with
 | some k => if (l.take k).any (AlC P) then (match (List.range (n + 1)).find? (FK (An9 l) ops l) with
   | some j => some (.sdraw j l [])
   | none => none) else some (.draw k l [])
 | none => none
theorem Abx {P : Program} {ops : List Oper} {l : List VO} {n : Nat} {c : Af} (h : Abs P ops l n = some c) : ∃ k, (c = .draw k l [] ∧ FK [] ops l k = true) ∨ (c = .sdraw k l [] ∧ FK (An9 l) ops l k = true) := by
 unfold Abs at h
 split at h
 ·rename_i k hk
  split at h
  ·split at h
   ·rename_i j hj; cases h; exact ⟨j, .inr ⟨rfl, List.find?_some hj⟩⟩
   ·cases h
  ·cases h; exact ⟨k, .inl ⟨rfl, List.find?_some hk⟩⟩
 ·cases h
def Abt (bz : Bool) (P : Program) (N : Nat) (ops : Array Oper) : Option Af := match trL bz P N ops.toList ops.toList with
 | some l => if P.follows .mixedOrders then (if l.any Aqz || l.any (AlC P) then (match trL bz P N (Bh ops.toList (Aq8 ops.toList l)) (Bh ops.toList (Aq8 ops.toList l)) with
   | some l' => if V8 (Aq8 ops.toList l) ops.toList.length then Abs P (Bh ops.toList (Aq8 ops.toList l)) l' ops.size else none
   | none => none)
  else ((List.range (ops.size + 1)).find? (FK [] ops.toList l)).map fun n => .draw n l []) else none
 | none => none
theorem Si {bz : Bool} {P : Program} {N : Nat} {ops : Array Oper} {c : Af} (h : Abt bz P N ops = some c) : (∃ n l, c = .draw n l [] ∧ P.follows .mixedOrders = true ∧
  ((trL bz P N ops.toList ops.toList = some l ∧ FK [] ops.toList l n = true) ∨ ∃ π, V8 π ops.toList.length = true ∧ trL bz P N (Bh ops.toList π) (Bh ops.toList π) = some l ∧ FK [] (Bh ops.toList π) l n = true)) ∨
  ∃ n l, c = .sdraw n l [] ∧ P.follows .mixedOrders = true ∧ ∃ π, V8 π ops.toList.length = true ∧ trL bz P N (Bh ops.toList π) (Bh ops.toList π) = some l ∧ FK (An9 l) (Bh ops.toList π) l n = true := by
 unfold Abt at h
 split at h
 ·rename_i l hl
  split at h
  ·rename_i hm
   split at h
   ·split at h
    ·rename_i l' hl'
     split at h
     ·rename_i hp
      obtain ⟨k, ⟨rfl, hk⟩ | ⟨rfl, hk⟩⟩ := Abx h
      ·exact .inl ⟨k, l', rfl, hm, .inr ⟨_, hp, hl', hk⟩⟩
      ·exact .inr ⟨k, l', rfl, hm, _, hp, hl', hk⟩
     ·cases h
    ·cases h
   ·obtain ⟨n, hn, rfl⟩ := Option.map_eq_some_iff.1 h
    exact .inl ⟨n, l, rfl, hm, .inl ⟨hl, List.find?_some hn⟩⟩
  ·cases h
 ·cases h
/-- A slice is made where all is to be AbA: it cannot be shown so. -/
def AnT : Af → Bool
 | .draw n l _ | .sdraw n l _ => (l.take n).any fun v => match v.op with | .s (.bslice _ _ _ _) => true | _ => false
 | _ => false
def AbP (P : Program) (N : Nat) (ops : Array Oper) : Option Af := match Abt false P N ops with
 | some c => if AnT c then (match Abt true P N ops with | some c' => some c' | none => some c) else some c
 | none => none
theorem PT {P : Program} {N : Nat} {ops : Array Oper} {c : Af} (h : AbP P N ops = some c) : ∃ bz : Bool, (∃ n l, c = .draw n l [] ∧ P.follows .mixedOrders = true ∧
  ((trL bz P N ops.toList ops.toList = some l ∧ FK [] ops.toList l n = true) ∨ ∃ π, V8 π ops.toList.length = true ∧ trL bz P N (Bh ops.toList π) (Bh ops.toList π) = some l ∧ FK [] (Bh ops.toList π) l n = true)) ∨
  ∃ n l, c = .sdraw n l [] ∧ P.follows .mixedOrders = true ∧ ∃ π, V8 π ops.toList.length = true ∧ trL bz P N (Bh ops.toList π) (Bh ops.toList π) = some l ∧ FK (An9 l) (Bh ops.toList π) l n = true := by
 unfold AbP at h
 split at h
 ·rename_i c1 h1
  split at h
  ·split at h
   ·rename_i c2 h2; cases h; exact ⟨true, Si h2⟩
   ·cases h; exact ⟨false, Si h1⟩
  ·cases h; exact ⟨false, Si h1⟩
 ·cases h
theorem AgT {P : Program} {N : Nat} {ops : Array Oper} {c : Af} (h : AbP P N ops = some c) (hc : ∀ n l, c ≠ .draw n l []) (hc2 : ∀ n l, c ≠ .sdraw n l []) : False := by
 obtain ⟨bz, ⟨n, l, e, _⟩ | ⟨n, l, e, _⟩⟩ := PT h
 ·exact hc n l e
 ·exact hc2 n l e
def trC (P : Program) (N : Nat) : Code → Option Af
 | .skip => some .skip
 | .region _ ops false => some (match trL false P N ops.toList ops.toList with | some l => .ops l [] | none => .dead)
 | .region _ ops true => some (match AbP P N ops with | some c => c | none => .dead)
 | .seq a b => match trC P N a, trC P N b with
  | some a, some b => some (.seq a b)
  | _, _ => none
 | .cond c a b => match trC P N a, trC P N b with
  | some a, some b => some (.cond (trO c) a b)
  | _, _ => none
 | .block id c => (trC P N c).map (.block id)
 | .loop c => (trC P N c).map (.loop [])
 | .exit id => some (.exit id)
 | .scope c => (trC P N c).map .scope
 | .label _ => some .skip
 | .ret => some .ret
 | .rangeFunc f ps aS bd => if ps.toList.all (· < N) then (match trC P N aS, trC P N bd with
  | some aS, some bd => some (.rfunc (trO f) ps.toList aS bd)
  | _, _ => none) else none
 | _ => some .dead
theorem AiG {P : Program} {N id : Nat} {ops : Array Oper} {c : Af} (h : trC P N (.region id ops false) = some c) : (∃ l, trL false P N ops.toList ops.toList = some l ∧ c = .ops l []) ∨ c = .dead := by
 simp only [trC, Option.some.injEq] at h
 split at h
 ·rename_i l hl; exact .inl ⟨l, hl, h.symm⟩
 ·exact .inr h.symm
theorem AkD {P : Program} {N id : Nat} {ops : Array Oper} {c : Af} (h : trC P N (.region id ops true) = some c) : AbP P N ops = some c ∨ c = .dead := by
 simp only [trC, Option.some.injEq] at h
 split at h
 ·rename_i l hl; exact .inl (hl.trans (by rw [h]))
 ·exact .inr h.symm
theorem F5 {P : Program} {N id : Nat} {ops : Array Oper} {c : Af} (h : trC P N (.region id ops false) = some c) (hc : ∀ l, c ≠ .ops l []) (hd : c ≠ .dead) : False := by
 rcases AiG h with ⟨l, _, e⟩ | e
 ·exact hc l e
 ·exact hd e
theorem FZ {P : Program} {N id : Nat} {ops : Array Oper} {c : Af} (h : trC P N (.region id ops true) = some c) (hc : ∀ n l, c ≠ .draw n l []) (hc2 : ∀ n l, c ≠ .sdraw n l []) (hd : c ≠ .dead) : False := by
 rcases AkD h with e | e
 ·exact AgT e hc hc2
 ·exact hd e

/-- No loop over a function in it. -/
def Zl : Af → Bool
 | .seq a b => Zl a && Zl b
 | .cond _ a b => Zl a && Zl b
 | .block _ c => Zl c
 | .loop _ c => Zl c
 | .scope c => Zl c
 | .own _ _ c => Zl c
 | .ownB _ _ _ c => Zl c
 | .ownT _ _ _ c => Zl c
 | .frz _ c => Zl c
 | .rfunc _ _ _ _ => false
 | _ => true

inductive VEx where
 | nor
 | exit (id : Nat)
 | ret
 | pan (u : Value)

def VEx.ex : VEx → Exit
 | .nor => .normal
 | .exit id => .exit id
 | .ret => .ret
 | .pan u => .panic [{ v := u, recovered := false }]

mutual
/-- It refers to no object from g on. -/
def EI (g : Nat) : TV → Bool
 | .op id _ _ => decide (id < g)
 | .os _ id _ _ _ _ _ => decide (id < g)
 | .mp id _ => decide (id < g)
 | .yl id _ => decide (id < g)
 | .agg cs => Et g cs
 | .tup cs => Et g cs
 | .ifc _ x => EI g x
 | .fn _ a b => Et g a && Et g b
 | _ => true
def Et (g : Nat) : List TV → Bool
 | [] => true
 | x :: xs => EI g x && Et g xs
end
def YI (g : Nat) : Env → Bool
 | [] => true
 | (_, x) :: e => EI g x && YI g e
def QK (g : Nat) : Ob → Bool
 | .obj _ x => EI g x
 | .ice _ _ x => EI g x
 | .fact id _ _ _ => decide (id < g)
 | .lp _ _ _ _ e _ _ _ => YI g e
 | .mpo _ es => Et g (es.map (·.2))
 | .bld _ _ _ => true
 | .sit _ _ => true
 | .mpd _ zs _ => Et g (zs.map (·.2.2))
 | .mit m _ _ => decide (m < g)
 | .gone _ => true
def KC (g : Nat) : List Ob → Bool
 | [] => true
 | o :: H => QK g o && KC g H
/-- How a loop over a function is left. -/
def Ad4 (Q : VEx → Env → List Ob → Prop) (e : Env) (L : Nat) : TV → List Ob → Prop := fun _ H' => match H'[L]? with
 | some (.lp .ready none fn N e1 ps ca cb) => Q .nor e (H'.set L (.lp .exhausted none fn N e1 ps ca cb))
 | some (.lp .done (some .ret) fn N e1 ps ca cb) => Q .ret e (H'.set L (.lp .exhausted (some .ret) fn N e1 ps ca cb))
 | some (.lp .done (some (.exit i)) fn N e1 ps ca cb) => Q (.exit i) e (H'.set L (.lp .exhausted (some (.exit i)) fn N e1 ps ca cb))
 | _ => False
/-- The code of a loop's record is this. -/
structure Alz (P : Program) (N : Nat) (ps : List Nat) (ca cb : Code) (aS bd : Af) : Prop where
 a : trC P N ca = some (er aS)
 b : trC P N cb = some (er bd)
 p : ps.all (· < N) = true

def vwp (P : Program) : Af → (VEx → Env → List Ob → Prop) → Env → List Ob → Prop
 | .ops l kp, Q, e, H => YS P l (fun e H => Q .nor (forget kp e) H) e H
 | .opsZ l zs r kp, Q, e, H => YS P l (Ane zs (YS P r (fun e H => Q .nor (forget kp e) H))) e H
 | .pops l kp, Q, e, H => Us P (fun u H => Q (.pan u) (AdA l e) H) l (fun e H => Q .nor (forget kp e) H) e H
 | .pdraw n l kp, Q, e, H => vq P (l.take n) (fun e => Us P (fun u H => Q (.pan u) [] H) (l.drop n) (fun e H => Q .nor (forget kp e) H) e H) e H
 | .sdraw n l kp, Q, e, H => vq P (l.take n) (fun e => TD (pvopS P (fun u H => Q (.pan u) [] H) (An9 l)) (l.drop n) (fun e H => Q .nor (forget kp e) H) e H) e H
 | .draw n l kp, Q, e, H => vq P (l.take n) (fun e => YS P (l.drop n) (fun e H => Q .nor (forget kp e) H) e H) e H
 | .skip, Q, e, H => Q .nor e H
 | .seq a b, Q, e, H => vwp P a (fun x e H => match x with | .nor => vwp P b Q e H | .exit i => Q (.exit i) e H | .ret => Q .ret e H | .pan u => Q (.pan u) e H) e H
 | .cond c a b, Q, e, H => match c.ev e with
  | .val (.bool t) => if t = true then vwp P a Q e H else vwp P b Q e H
  | _ => False
 | .block id c, Q, e, H => vwp P c (fun x e H => match x with | .nor => Q .nor e H | .exit i => if i = id then Q .nor e H else Q (.exit i) e H | .ret => Q .ret e H | .pan u => Q (.pan u) e H) e H
 | .loop lv c, Q, e, H0 => ∃ (I : Nat → Env → List Ob → Prop) (n : Nat), I n (forget lv e) H0 ∧
   ∀ n e H, I n e H → vwp P c (fun x e H => match x with | .nor => ∃ m g, m < n ∧ (H0.length ≤ g ∧ (H.length ≤ g ∨ (YI g (forget lv e) = true ∧ KC g (H.take g) = true))) ∧ I m (forget lv e) (H.take g) | .exit i => Q (.exit i) e H | .ret => Q .ret e H | .pan u => Q (.pan u) e H) e H
 | .exit id, Q, e, H => Q (.exit id) e H
 | .ret, Q, e, H => Q .ret e H
 | .scope c, Q, e, H => vwp P c Q e H
 | .dead, _, _, _ => False
 | .own s k c, Q, e, H => match get e s with
  | .val (.slice none 0 0) => vwp P c Q ((s, .os k H.length 0 [] 0 0 0) :: e) (H ++ [.obj 0 (.arr 0 k [])])
  | _ => vwp P c Q e H
 | .ownB s p k c, Q, e, H => match get e s with
  | .op id ver p0 => (match H[id]? with
   | some (.obj v x) => v = ver ∧ (match MG (p0 ++ p) x with
    | some (.val (.slice none 0 0)) => (match U4 (p0 ++ p) x (.os k H.length 0 [] 0 0 0) with
     | some x' => vwp P c Q e (H.set id (.obj ver x') ++ [.obj 0 (.arr 0 k [])])
     | none => False)
    | _ => vwp P c Q e H)
   | _ => False)
  | _ => False
 | .ownT s p t c, Q, e, H => match get e s with
  | .op id ver p0 => (match H[id]? with
   | some (.obj v x) => v = ver ∧ (match MG (p0 ++ p) x with
    | some (.val (.slice none 0 0)) => (match U4 (p0 ++ p) x (.os 1 H.length 0 [] 0 0 0) with
     | some x' => vwp P c Q e (H.set id (.obj ver x') ++ [.bld 0 t []])
     | none => False)
    | _ => vwp P c Q e H)
   | _ => False)
  | _ => False
 | .frz s c, Q, e, H => match get e s with
  | .os k id ver p off n _ => (match H[id]? with
   | some (.obj v x) => v = ver ∧ (match Ea p k off n x with
    | some cs => vwp P c Q ((s, .sl k cs) :: e) (H.set id (.gone ver))
    | none => False)
   | _ => False)
  | _ => False
 | .rfunc f ps aS bd, Q, e, H => Zl aS = true ∧ Zl bd = true ∧ (match f.ev e with
  | .fn (.func g) first caps => Ue P g = true ∧ ∀ (N : Nat) (fn : FuncId) (ca cb : Code), Alz P N ps ca cb aS bd → Aq P g (first ++ [.yl H.length 0] ++ caps) (H ++ [.lp .ready none fn N e ps ca cb]) (Ad4 Q e H.length)
  | .val (.func (.func g) xs ys) => (xs.isEmpty && ys.isEmpty) = true ∧ Ue P g = true ∧ ∀ (N : Nat) (fn : FuncId) (ca cb : Code), Alz P N ps ca cb aS bd → Aq P g [.yl H.length 0] (H ++ [.lp .ready none fn N e ps ca cb]) (Ad4 Q e H.length)
  | _ => False)

section sound
variable {P : Program}
/-- The same cells, read otherwise. -/
theorem Xx {c : Ctx} {w : World} : ∀ {p : List (Nat × Nat)} {x y z x' : TV} {us : List Value}, Aj c w x us → MG p x = some z → (∀ m, Aj c w z m → Aj c w y m) → U4 p x y = some x' → Aj c w x' us := by
 intro p x y z x' us h hg hm hs
 obtain ⟨a, m, b, rfl, h1, h2⟩ := JB h hg
 obtain ⟨a', m', b', e, h3, h4, h5, _⟩ := TK h hs (hm m h2)
 have e1 : a = a' := by
  have := congrArg (List.take a.length) e
  rw [List.append_assoc, List.append_assoc, List.take_left] at this
  rw [this, List.take_left' (by omega)]
 subst e1
 rw [List.append_assoc, List.append_assoc] at e
 have e2 := List.append_cancel_left e
 have e3 : m = m' := by
  have := congrArg (List.take m.length) e2
  rw [List.take_left] at this
  rw [this, List.take_left' (by omega)]
 subst e3
 have e4 := List.append_cancel_left e2
 subst e4
 exact h5

/-- A row that is given away, read aS it stays. -/
theorem Sim.give {β : Nat → Nat → Option (Nat × Nat)} {H : List Ob} {F : Nat → Prop} {w : World} (hs : Sim ⟨β, H, F⟩ w) {k id ver off n cp : Nat} {p : List (Nat × Nat)} {x : TV} {cs : List TV} (hid : H[id]? = some (.obj ver x)) (hcs : Ea p k off n x = some cs) {us : List Value} (hr : Aj ⟨β, H, F⟩ w (.os k id ver p off n cp) us) :
  Aj ⟨β, H.set id (.gone ver), fun b => F b ∨ ∃ off, β id ver = some (b, off)⟩ w (.sl k cs) us := by
 have hm : I4 (Ctx.bare ⟨β, H, F⟩) w (Ctx.bare ⟨β, H.set id (.gone ver), fun b => F b ∨ ∃ off, β id ver = some (b, off)⟩) w :=
  ⟨fun b hb => ⟨.inl hb, rfl⟩, fun _ _ k => (Ctx.bare_has k).elim, fun _ _ => rfl⟩
 rw [Aj] at hr
 obtain ⟨hr1, hr2⟩ := hr
 rcases hr2 with ⟨rfl, a0, hr2, _⟩ | ⟨b0, o0, cap, t0, m0, hr2, hr3, hr4, hr5, hr6, hr7⟩
 ·have : cs = [] := by
   unfold Ea at hcs
   split at hcs
   ·split at hcs
    ·cases hcs; simp
    ·cases hcs
   ·cases hcs
  subst this
  rw [Aj]
  exact ⟨by simp, .inl ⟨rfl, a0, 0, hr2, by omega⟩⟩
 rcases hs.ob id _ hid with ⟨h0, _⟩ | ⟨b, off', pre, vs, post, t, fr, h0, h1, h2, h3, h4⟩
 ·have h0' : β id ver = none := h0
  have hr2' : β id ver = some (b0, o0) := hr2
  rw [h0'] at hr2'; cases hr2'
 have h0' : β id ver = some (b, off') := h0
 have hr2' : β id ver = some (b0, o0) := hr2
 rw [h0'] at hr2'
 obtain ⟨rfl, rfl⟩ : b = b0 ∧ off' = o0 := by simpa using hr2'
 obtain ⟨a, m, q, rfl, k1, k2, k3, k4⟩ := MQ h4 hcs
 rw [Aj]
 refine ⟨k3, .inr ⟨b, off' + EQ p + off * k, cap, m, by rw [k4]; exact hr3, by omega, hr5, .inr ⟨off', h0'⟩, Ak.mono hm k2, ?_⟩⟩
 have e : off' + EQ p + off * k = pre.length + a.length := by rw [h3, k1]; omega
 rw [e]; exact Ij h1

theorem AaN {N : Nat} {D : List Deferred} : ∀ {zs : List Nat} {K : Env → List Ob → Prop} {e : Env} {H : List Ob} {β : Nat → Nat → Option (Nat × Nat)} {F : Nat → Prop} {w : World} {a : Act}, Ane zs K e H → Sim ⟨β, H, F⟩ w → Fr N D ⟨β, H, F⟩ w e a →
  ∃ e' H' F', K e' H' ∧ Sim ⟨β, H', F'⟩ w ∧ Fr N D ⟨β, H', F'⟩ w e' a ∧ AO ⟨β, H, F⟩ w ⟨β, H', F'⟩ w
 | [], K, e, H, β, F, w, a, h, hs, hf => ⟨e, H, F, h, hs, hf, AO.refl _ _⟩
 | s :: zs, K, e, H, β, F, w, a, h, hs, hf => by
  rw [Ane] at h
  split at h
  ·rename_i k id ver p off n cp hg
   split at h
   ·rename_i v y hid
    obtain ⟨rfl, h⟩ := h
    split at h
    ·rename_i cs hcs
     obtain ⟨k1, k2⟩ := hs.freeze hid rfl
     have hr : Rep ⟨β, H, F⟩ w (get e s) (a.tmps.getD s undef) := hf.env.1 s
     rw [hg] at hr
     have hr' : Rep ⟨β, H.set id (.gone v), fun b => F b ∨ ∃ off, β id v = some (b, off)⟩ w (.sl k cs) (a.tmps.getD s undef) := by
      rcases hr with (hr | hr | ⟨us, hr, hr2⟩) | ⟨xs, vs, hr, _⟩
      ·cases hr
      ·cases hr
      ·exact .inl (.inr (.inr ⟨us, hs.give hid hcs hr, by rw [hr2]; rfl⟩))
      ·cases hr
     obtain ⟨e', H', F', q1, q2, q3, q4⟩ := AaN h k1 (a := a) ⟨⟨fun s' => by
      rw [BK]
      by_cases hss : s = s'
      ·subst hss; rw [if_pos rfl]; exact hr'
      ·rw [if_neg hss]; exact Rep.mono (k2.mono hs) (hf.env.1 s'), k1.glob⟩, hf.size, hf.defers⟩
     exact ⟨e', H', F', q1, q2, q3, k2.trans q4⟩
    ·exact h.elim
   ·exact h.elim
  ·exact h.elim
theorem AhQ {P : Program} {N : Nat} {all : List Oper} : ∀ {os : List Oper} {l1 l2 : List VO}, trL false P N all os = some (l1 ++ l2) → ∃ o1 o2, os = o1 ++ o2 ∧ trL false P N all o1 = some l1 ∧ trL false P N all o2 = some l2
 | os, [], l2, h => ⟨[], os, rfl, rfl, h⟩
 | [], v :: l1, l2, h => by simp [trL] at h
 | o :: os, v :: l1, l2, h => by
  rw [trL] at h
  split at h
  ·rename_i v' g r hv hg hr
   split at h
   ·rename_i hd
    simp only [List.cons_append, Option.some.injEq, List.cons.injEq] at h
    obtain ⟨rfl, rfl⟩ := h
    obtain ⟨o1, o2, rfl, h1, h2⟩ := AhQ hr
    refine ⟨o :: o1, o2, rfl, ?_, h2⟩
    rw [trL, hv, hg, h1]
    simp [hd]
   ·cases h
  ·cases h
theorem AcV {N : Nat} {D : List Deferred} {ro : Option Nat} {nn : Nat} {all : Array Oper} {os : List Oper} {l1 l2 : List VO} {zs : List Nat} (ht : trL false P N all.toList os = some (l1 ++ l2)) {K : Env → List Ob → Prop} {e : Env} {H : List Ob} {β : Nat → Nat → Option (Nat × Nat)} {F : Nat → Prop} {w : World} {a : Act} {QQ : Exit → Act → World → Prop}
  (h : YS P l1 (Ane zs (YS P l2 K)) e H) (hs : Sim ⟨β, H, F⟩ w) (hf : Fr N D ⟨β, H, F⟩ w e a)
  (hk : ∀ e' H' β' F' w' a', K e' H' → Sim ⟨β', H', F'⟩ w' → Fr N D ⟨β', H', F'⟩ w' e' a' → AO ⟨β, H, F⟩ w ⟨β', H', F'⟩ w' → QQ .normal a' w') : wpListIn (fz ro) nn P all QQ os a w := by
 obtain ⟨o1, o2, rfl, h1, h2⟩ := AhQ ht
 refine Zz (NS.vop (KP := fun _ _ => False)) h1 h hs hf (fun e' H' β' F' w' a' k1 k2 k3 k4 => ?_) (fun _ _ _ _ _ _ h => h.elim)
 obtain ⟨e2, H2, F2, q1, q2, q3, q4⟩ := AaN k1 k2 k3
 exact AaK h2 q1 q2 q3 fun e3 H3 β3 F3 w3 a3 m1 m2 m3 m4 => hk e3 H3 β3 F3 w3 a3 m1 m2 m3 ((k4.trans q4).trans m4)

theorem Sim.own {β : Nat → Nat → Option (Nat × Nat)} {H : List Ob} {F : Nat → Prop} {w : World} (hs : Sim ⟨β, H, F⟩ w) (k : Nat) :
  Sim ⟨upd β H.length 0 none, H ++ [.obj 0 (.arr 0 k [])], F⟩ w ∧ AO ⟨β, H, F⟩ w ⟨upd β H.length 0 none, H ++ [.obj 0 (.arr 0 k [])], F⟩ w ∧
   Aj ⟨upd β H.length 0 none, H ++ [.obj 0 (.arr 0 k [])], F⟩ w (.os k H.length 0 [] 0 0 0) [.slice none 0 0] := by
 obtain ⟨k1, k2⟩ := hs.newNone (x := .arr 0 k []) (by rw [Aj]; exact ⟨rfl, by simp, by rw [Ak]⟩)
 exact ⟨k1, k2, by rw [Aj]; exact ⟨Gn _ _ _ _ _ (Nat.le_refl _), .inl ⟨rfl, none, rfl, rfl, fun _ h => by cases h⟩⟩⟩

theorem Sim.ownBld {β : Nat → Nat → Option (Nat × Nat)} {H : List Ob} {F : Nat → Prop} {w : World} (hs : Sim ⟨β, H, F⟩ w) (t : TypeId) :
  Sim ⟨upd β H.length 0 none, H ++ [.bld 0 t []], F⟩ w ∧ AO ⟨β, H, F⟩ w ⟨upd β H.length 0 none, H ++ [.bld 0 t []], F⟩ w ∧
   Aj ⟨upd β H.length 0 none, H ++ [.bld 0 t []], F⟩ w (.os 1 H.length 0 [] 0 0 0) [.slice none 0 0] := by
 obtain ⟨k1, k2⟩ := hs.new (.bld 0 t []) rfl none (w' := w) (fun b off e => by cases e) rfl rfl rfl (Nat.le_refl _) (fun b hb => rfl) fun hm => .inl ⟨AU, rfl⟩
 exact ⟨k1, k2, by rw [Aj]; exact ⟨Gn _ _ _ _ _ (Nat.le_refl _), .inl ⟨rfl, none, rfl, rfl, fun _ h => by cases h⟩⟩⟩

/-- Objects that nobody knows any more are forgotten. -/
def Ctx.cut (c : Ctx) (g : Nat) : Ctx := ⟨c.β, c.H.take g, c.F⟩
theorem Ctx.cut_has {c : Ctx} {g id ver : Nat} (h : c.has id ver) (hg : id < g) : (c.cut g).has id ver := by
 obtain ⟨o, h1, h2⟩ := h
 exact ⟨o, by show (c.H.take g)[id]? = some o; rw [List.getElem?_take, if_pos hg]; exact h1, h2⟩
theorem Ctx.cut_get {c : Ctx} {g id : Nat} {o : Ob} (h : (c.cut g).H[id]? = some o) : id < g ∧ c.H[id]? = some o := by
 have h' : (c.H.take g)[id]? = some o := h
 rw [List.getElem?_take] at h'
 split at h'
 ·exact ⟨‹_›, h'⟩
 ·cases h'
mutual
theorem Aj.cut {c : Ctx} {w : World} {g : Nat} : ∀ {x : TV} {us : List Value}, EI g x = true → Aj c w x us → Aj (c.cut g) w x us
 | .val y, us, hf, hr => by rw [Aj] at hr ⊢; exact hr
 | .any, us, hf, hr => by rw [Aj] at hr ⊢; exact hr
 | .sl k cs, us, hf, hr => by rw [Aj] at hr ⊢; exact hr
 | .fp x, us, hf, hr => by rw [Aj] at hr ⊢; exact hr
 | .arr n k cs, us, hf, hr => by rw [Aj] at hr ⊢; exact hr
 | .op id ver p, us, hf, hr => by
  rw [EI, decide_eq_true_eq] at hf; rw [Aj] at hr ⊢; exact ⟨Ctx.cut_has hr.1 hf, hr.2⟩
 | .os k id ver p off n cp, us, hf, hr => by
  rw [EI, decide_eq_true_eq] at hf; rw [Aj] at hr ⊢; exact ⟨Ctx.cut_has hr.1 hf, hr.2⟩
 | .mp id ver, us, hf, hr => by
  rw [EI, decide_eq_true_eq] at hf; rw [Aj] at hr ⊢; exact ⟨Ctx.cut_has hr.1 hf, hr.2⟩
 | .yl id ver, us, hf, hr => by
  rw [EI, decide_eq_true_eq] at hf; rw [Aj] at hr ⊢; exact ⟨Ctx.cut_has hr.1 hf, hr.2⟩
 | .agg cs, us, hf, hr => by rw [EI] at hf; rw [Aj] at hr ⊢; exact Ak.cut hf hr
 | .tup cs, us, hf, hr => by rw [Aj] at hr; exact hr.elim
 | .ifc t x, us, hf, hr => by
  rw [EI] at hf; rw [Aj] at hr ⊢
  obtain ⟨u, h1, vs, h2, h3⟩ := hr
  exact ⟨u, h1, vs, Aj.cut hf h2, h3⟩
 | .fn f a b, us, hf, hr => by
  rw [EI, Bool.and_eq_true] at hf; rw [Aj] at hr ⊢
  obtain ⟨aS, bs, h1, h2, h3⟩ := hr
  exact ⟨aS, bs, h1, Bd.cut hf.1 h2, Bd.cut hf.2 h3⟩
theorem Ak.cut {c : Ctx} {w : World} {g : Nat} : ∀ {xs : List TV} {us : List Value}, Et g xs = true → Ak c w xs us → Ak (c.cut g) w xs us
 | [], us, hf, hr => by rw [Ak] at hr ⊢; exact hr
 | x :: xs, us, hf, hr => by
  rw [Et, Bool.and_eq_true] at hf; rw [Ak] at hr ⊢
  obtain ⟨a, b, h1, h2, h3⟩ := hr
  exact ⟨a, b, h1, Aj.cut hf.1 h2, Ak.cut hf.2 h3⟩
theorem Bd.cut {c : Ctx} {w : World} {g : Nat} : ∀ {xs : List TV} {us : List Value}, Et g xs = true → Bd c w xs us → Bd (c.cut g) w xs us
 | [], us, hf, hr => by rw [Bd] at hr ⊢; exact hr
 | x :: xs, us, hf, hr => by
  rw [Et, Bool.and_eq_true] at hf; rw [Bd] at hr ⊢
  obtain ⟨u, us, h1, h2, h3⟩ := hr
  refine ⟨u, us, h1, ?_, Bd.cut hf.2 h3⟩
  rcases h2 with h2 | h2 | ⟨aS, h2, h4⟩
  ·exact .inl h2
  ·exact .inr (.inl h2)
  ·exact .inr (.inr ⟨aS, Aj.cut hf.1 h2, h4⟩)
end
theorem Rep.cut {c : Ctx} {w : World} {g : Nat} {x : TV} {v : Value} (hf : EI g x = true) (hr : Rep c w x v) : Rep (c.cut g) w x v := by
 rcases hr with (h | h | ⟨us, h, h'⟩) | ⟨xs, vs, rfl, h2, h3⟩
 ·exact .inl (.inl h)
 ·exact .inl (.inr (.inl h))
 ·exact .inl (.inr (.inr ⟨us, Aj.cut hf h, h'⟩))
 ·rw [EI] at hf; exact .inr ⟨xs, vs, rfl, h2, Bd.cut hf h3⟩
theorem Yk {g : Nat} : ∀ {e : Env}, YI g e = true → ∀ s, EI g (get e s) = true
 | [], _, s => rfl
 | (k, x) :: e, h, s => by
  rw [YI, Bool.and_eq_true] at h
  rw [BK]
  split
  ·exact h.1
  ·exact Yk h.2 s
theorem Aaq {g : Nat} : ∀ {H : List Ob}, KC g H = true → ∀ (i : Nat) (o : Ob), H[i]? = some o → QK g o = true
 | [], _, i, o, h => by simp at h
 | o :: H, h, i, o', hi => by
  rw [KC, Bool.and_eq_true] at h
  cases i with
  | zero => simp at hi; subst hi; exact h.1
  | succ i => exact Aaq h.2 i o' (by simpa using hi)
theorem AQ.cut {c : Ctx} {w : World} {g : Nat} {kk : MK} : ∀ {es : List (List UInt8 × TV)} {ms : List MapEntry}, Et g (es.map (·.2)) = true → AQ c w kk es ms → AQ (c.cut g) w kk es ms
 | [], ms, _, h => h
 | (k, x) :: es, ms, hb, h => by
  rw [List.map_cons, Et, Bool.and_eq_true] at hb
  obtain ⟨m, r, rfl, h1, h2, h3⟩ := h
  exact ⟨m, r, rfl, h1, ⟨Aj.cut hb.1 h2.1, h2.2⟩, AQ.cut hb.2 h3⟩
theorem Sim.cut {c : Ctx} {w : World} {g : Nat} (hs : Sim c w) (hg : KC g (c.H.take g) = true) : Sim (c.cut g) w := by
 have hown : ∀ b, (c.cut g).own b → c.own b := by
  rintro b ⟨i, o, off, h1, h2, h3⟩
  exact ⟨i, o, off, (Ctx.cut_get h1).2, h2, h3⟩
 refine ⟨fun id o ho => ?_, fun i j x y b o o' hx hy hlx hly e e' => hs.inj i j x y b o o' (Ctx.cut_get hx).2 (Ctx.cut_get hy).2 hlx hly e e', fun b hb => hs.apart b (hown b hb), hs.lt, hs.glob⟩
 have h1 := hs.ob id o (Ctx.cut_get ho).2
 have hb := Aaq hg id o ho
 cases o with
 | gone v => trivial
 | ice v m x =>
  obtain ⟨b, off, pre, vs, post, t, fr, h0, h1, h2, h3, h4⟩ := h1
  exact ⟨b, off, pre, vs, post, t, fr, h0, h1, h2, h3, Aj.cut hb h4⟩
 | bld v t l => exact h1
 | fact i v t m =>
  obtain ⟨h0, h2⟩ := h1
  exact ⟨Ctx.cut_has h0 (by simpa [QK] using hb), h2⟩
 | lp st pend fn N en ps ca cb =>
  obtain ⟨b, tmps, D, h0, h1, h2, h3⟩ := h1
  exact ⟨b, tmps, D, h0, h1, h2, fun s => Rep.cut (Yk hb s) (h3 s)⟩
 | mpo kk es =>
  obtain ⟨b, ms, cl, h0, h1, h2, h3⟩ := h1
  exact ⟨b, ms, cl, h0, h1, AQ.cut hb h2, h3⟩
 | sit s pos => exact h1
 | mpd kk zs cl =>
  obtain ⟨b, ms, h0, h1, h2, h3⟩ := h1
  exact ⟨b, ms, h0, h1, AQ.cut (by rw [List.map_map]; exact hb) h2, h3⟩
 | mit m sn cl =>
  obtain ⟨r, b, h0, ⟨g0, g1⟩, h1⟩ := h1
  exact ⟨r, b, h0, ⟨Ctx.cut_has g0 (by simpa [QK] using hb), g1⟩, h1⟩
 | obj v x =>
  rcases h1 with ⟨h0, h4⟩ | ⟨b, off, pre, vs, post, t, fr, h0, h1, h2, h3, h4⟩
  ·exact .inl ⟨h0, Aj.cut hb h4⟩
  ·exact .inr ⟨b, off, pre, vs, post, t, fr, h0, h1, h2, h3, Aj.cut hb h4⟩
theorem AO.cut {c0 c : Ctx} {w0 w : World} {g : Nat} (hl : AO c0 w0 c w) (hg : c0.H.length ≤ g) : AO c0 w0 (c.cut g) w :=
 ⟨hl.os, hl.tape, hl.output, hl.size, fun id ver h => by
  obtain ⟨h1, h2⟩ := hl.has id ver h
  exact ⟨Ctx.cut_has h1 (Nat.lt_of_lt_of_le (Ctx.has_lt h) hg), h2⟩, hl.shape, hl.same, hl.keepF, hl.oldF, fun b hb ⟨i, o, off, h1, h2, h3⟩ => hl.oldOwn b hb ⟨i, o, off, (Ctx.cut_get h1).2, h2, h3⟩⟩

/-- The blocks for the calls that rounds defer: each holds none. -/
def Qd (D0 : List Deferred) (B : Nat) (c : Ctx) (w : World) (D : List Deferred) : Prop := ∃ ds : List Nat, D = ds.map (fun r => { target := .collected r, args := #[] }) ++ D0 ∧ ds.Nodup ∧ ∀ r ∈ ds, B ≤ r ∧ r < w.heap.size ∧ ¬ c.own r ∧ ¬ c.F r ∧ w.heap[r]? = some (.deferred (some []))
theorem Qd.nil {D0 : List Deferred} {B : Nat} {c : Ctx} {w : World} : Qd D0 B c w D0 := ⟨[], rfl, List.nodup_nil, fun r h => by cases h⟩
theorem Qd.later {D0 : List Deferred} {B : Nat} {c c' : Ctx} {w w' : World} {D : List Deferred} (h : Qd D0 B c w D) (hl : AO c w c' w') : Qd D0 B c' w' D := by
 obtain ⟨ds, h1, h2, h3⟩ := h
 refine ⟨ds, h1, h2, fun r hr => ?_⟩
 obtain ⟨k1, k2, k3, k4, k5⟩ := h3 r hr
 exact ⟨k1, Nat.lt_of_lt_of_le k2 hl.size, fun h => k3 (hl.oldOwn r k2 h), fun h => (hl.oldF r k2 h).elim k4 k3, (hl.same r k2 k3).trans k5⟩
theorem Qd.cut {D0 : List Deferred} {B g : Nat} {c : Ctx} {w : World} {D : List Deferred} (h : Qd D0 B c w D) : Qd D0 B (c.cut g) w D := by
 obtain ⟨ds, h1, h2, h3⟩ := h
 refine ⟨ds, h1, h2, fun r hr => ?_⟩
 obtain ⟨k1, k2, k3, k4, k5⟩ := h3 r hr
 exact ⟨k1, k2, fun ⟨i, o, off, h1, h2, h3⟩ => k3 ⟨i, o, off, (Ctx.cut_get h1).2, h2, h3⟩, k4, k5⟩

theorem SL (w : World) (r : Nat) (o : Obj) : (w.putObj r o).os = w.os ∧ (w.putObj r o).tape = w.tape ∧ (w.putObj r o).output = w.output ∧ (w.putObj r o).heap.size = w.heap.size := ⟨rfl, rfl, rfl, by simp [World.putObj]⟩
theorem AaH {w : World} {b : Nat} {r : Loop} (h : w.heap[b]? = some (.loop r)) : w.shape? b = none := by simp [World.shape?, h]

/-- A loop's record turns. -/
theorem Sim.loopTurn {β : Nat → Nat → Option (Nat × Nat)} {H : List Ob} {F : Nat → Prop} {w : World} (hs : Sim ⟨β, H, F⟩ w) {id N : Nat} {fn : FuncId} {e : Env} {ps : List Nat} {ca cb : Code} {st st' : LoopState} {pe pe' : Option Code}
  (ho : H[id]? = some (.lp st pe fn N e ps ca cb)) : ∃ (b : Nat) (r : Loop), β id 0 = some (b, 0) ∧ w.heap[b]? = some (.loop r) ∧ r.state = st ∧ r.pending = pe ∧ r.fn = fn ∧ r.tmps.size = N ∧ r.params = ps.toArray ∧ r.assign = ca ∧ r.body = cb ∧ (∀ s, Rep ⟨β, H, F⟩ w (get e s) (r.tmps.getD s undef)) ∧
   Sim ⟨β, H.set id (.lp st' pe' fn N e ps ca cb), F⟩ (w.putObj b (.loop { r with state := st', pending := pe' })) ∧
   AO ⟨β, H, F⟩ w ⟨β, H.set id (.lp st' pe' fn N e ps ca cb), F⟩ (w.putObj b (.loop { r with state := st', pending := pe' })) := by
 obtain ⟨b, tmps, D, h1, h2, h3, h4⟩ := hs.ob id _ ho
 have hlt : b < w.heap.size := (Array.getElem?_eq_some_iff.1 h2).1
 have hid : id < H.length := (List.getElem?_eq_some_iff.1 ho).1
 have hput := World.putObj_heap_same (w := w) (o := .loop { state := st', pending := pe', fn := fn, tmps := tmps, params := ps.toArray, assign := ca, body := cb, defers := D }) hlt
 obtain ⟨k1, k2⟩ := hs.turn (β' := β) (w' := w.putObj b (.loop { state := st', pending := pe', fn := fn, tmps := tmps, params := ps.toArray, assign := ca, body := cb, defers := D })) ho (o' := .lp st' pe' fn N e ps ca cb) rfl rfl (Nat.le_refl _) (fun _ _ _ => rfl) (fun b' off hb => .inl ⟨off, hb⟩) rfl rfl rfl
  (by rw [(SL _ _ _).2.2.2]; exact Nat.le_refl _) (fun b' hb' => by
   by_cases hbb : b' = b
   ·subst hbb; rw [AaH h2, AaH hput]
   ·exact BD (World.putObj_heap_other hbb)) (fun b' hb' hne => World.putObj_heap_other (fun e => hne 0 (by subst e; exact h1)))
  (fun hm => ⟨b, tmps, D, h1, hput, h3, fun s => Rep.mono hm (h4 s)⟩)
 exact ⟨b, { state := st, pending := pe, fn := fn, tmps := tmps, params := ps.toArray, assign := ca, body := cb, defers := D }, h1, h2, rfl, rfl, rfl, h3, rfl, rfl, rfl, h4, k1, k2⟩


/-- THE STATEMENT 'for .. := range g'. -/
theorem ZC {N nn : Nat} {f0 : Operand} {ps0 : Array Tmp} {ca cb : Code} {Q : VEx → Env → List Ob → Prop} {e : Env} {H : List Ob} {β : Nat → Nat → Option (Nat × Nat)} {F : Nat → Prop} {w : World} {a : Act} {QQ : Exit → Act → World → Prop} {B : Nat} {D D0 : List Deferred}
  (hs : Sim ⟨β, H, F⟩ w) (hf : Fr N D ⟨β, H, F⟩ w e a) (hm : Qd D0 B ⟨β, H, F⟩ w D) (hB : B ≤ w.heap.size) {g : FuncId} {us vs : List Value} {first caps : List TV} (hv : a.eval f0 = .func (.func g) us.toArray vs.toArray) (hgo : Ue P g = true) (hfi : Bd ⟨β, H, F⟩ w first us) (hc : Bd ⟨β, H, F⟩ w caps vs)
  (h : ∀ fn, Aq P g (first ++ [.yl H.length 0] ++ caps) (H ++ [.lp .ready none fn N e ps0.toList ca cb]) (Ad4 Q e H.length))
  (hk : ∀ x e' H' β' F' w' a' D', Q x e' H' → Sim ⟨β', H', F'⟩ w' → Fr N D' ⟨β', H', F'⟩ w' e' a' → Qd D0 B ⟨β', H', F'⟩ w' D' → AO ⟨β, H, F⟩ w ⟨β', H', F'⟩ w' → QQ x.ex a' w') : (Code.rangeFunc f0 ps0 ca cb).wpIn (fz none) nn P QQ a w := by
 refine wpIn_rangeFunc ?_
 intro fn hfn
 obtain ⟨rec, hrec⟩ : ∃ rec : Loop, rec = { state := .ready, pending := none, fn := fn, tmps := a.tmps, params := ps0, assign := ca, body := cb, defers := w.heap.size } := ⟨_, rfl⟩
 obtain ⟨W1, hW1⟩ : ∃ W1, (w.alloc (.deferred (some []))).alloc (.loop rec) = W1 := ⟨_, rfl⟩
 have hL1 : W1.heap[w.heap.size + 1]? = some (.loop rec) := by
  rw [← hW1]; have := World.alloc_heap_new (w.alloc (.deferred (some []))) (.loop rec); rwa [World.size_alloc] at this
 have hK1 : W1.heap[w.heap.size]? = some (.deferred (some [])) := by
  rw [← hW1]; exact (Below.heap_alloc _ _ _ (by simp)).trans (World.alloc_heap_new w _)
 have hsz : W1.heap.size = w.heap.size + 2 := by rw [← hW1]; simp
 have hold : ∀ b, b < w.heap.size → W1.heap[b]? = w.heap[b]? := fun b hb => by
  rw [← hW1]; exact (Below.heap_alloc _ _ _ (by simp; omega)).trans (Below.heap_alloc _ _ _ hb)
 obtain ⟨k1, k2⟩ := hs.new (w' := W1) (.lp .ready none fn N e ps0.toList ca cb) rfl (some (w.heap.size + 1, 0)) (fun b off h => by simp at h; omega) (by rw [← hW1]; rfl) (by rw [← hW1]; rfl) (by rw [← hW1]; rfl) (by omega) hold
  (fun hmo => ⟨w.heap.size + 1, a.tmps, w.heap.size, AU, by rw [hL1, hrec], hf.size, fun s => Rep.mono hmo (hf.env.1 s)⟩)
 have hmo := k2.mono hs
 have hown1 : ∀ b, Ctx.own ⟨upd β H.length 0 (some (w.heap.size + 1, 0)), H ++ [.lp .ready none fn N e ps0.toList ca cb], F⟩ b → b ≠ w.heap.size := by
  rintro b ⟨i, o, off, h1, h2, h3⟩ rfl
  by_cases hi : i < H.length
  ·rw [List.getElem?_append_left hi] at h1
   have h3' : β i o.ver = some (w.heap.size, off) := by
    have h3 : upd β H.length 0 (some (w.heap.size + 1, 0)) i o.ver = some (w.heap.size, off) := h3
    rw [V7 (fun h => by omega)] at h3; exact h3
   have := hs.own_lt ⟨i, o, off, h1, h2, h3'⟩
   omega
  ·have hil : i = H.length := by
    have := (List.getElem?_eq_some_iff.1 h1).1
    simp at this; omega
   subst hil
   simp at h1
   subst h1
   have h3 : upd β H.length 0 (some (w.heap.size + 1, 0)) H.length 0 = some (w.heap.size, off) := h3
   rw [AU] at h3
   simp at h3
 refine ⟨w.heap.size + 1, [{ target := .collected w.heap.size, args := #[] }], W1, { target := .fn (.func g) vs.toArray, args := us.toArray ++ #[.func (.yield (w.heap.size + 1)) #[] #[]] }, W1, g,
  us.toArray ++ #[.func (.yield (w.heap.size + 1)) #[] #[]] ++ vs.toArray, W1, ?_, ?_, ?_, ?_, ?_, ?_⟩
 ·rw [← hW1, hrec]; exact run_enterLoop_outer _ _ _ _ _
 ·simp only [resolve, hv]
  simp [go_sem]
 ·intro f' hf'; trivial
 ·simp only [invoke, I9 hgo]
 ·intro h; simp [fz, Fence.wide] at h
 ·refine (callsIn_wide (n := nn - 1)).2 ?_
  have hargs : Bd ⟨upd β H.length 0 (some (w.heap.size + 1, 0)), H ++ [.lp .ready none fn N e ps0.toList ca cb], F⟩ W1 (first ++ [.yl H.length 0] ++ caps) (us ++ [.func (.yield (w.heap.size + 1)) #[] #[]] ++ vs) := by
   refine Bd.append (Bd.append (Bd.mono hmo hfi) (Bd.cons.2 ⟨_, [], rfl, .inr (.inr ⟨[.func (.yield (w.heap.size + 1)) #[] #[]], ?_, rfl⟩), by rw [Bd]⟩)) (Bd.mono hmo hc)
   rw [Aj]
   exact ⟨Gn _ _ _ _ _ (Nat.le_refl _), _, _, AU, rfl⟩
  have hcall := h fn _ _ W1 _ k1 hargs
  rw [show (us ++ [Value.func (.yield (w.heap.size + 1)) #[] #[]] ++ vs).toArray = us.toArray ++ #[.func (.yield (w.heap.size + 1)) #[] #[]] ++ vs.toArray from by simp] at hcall
  refine hcall.mono ?_
  rintro _ w3 ⟨v, x, β', H', F', rfl, hR, hs', hl', hx⟩
  have hmk : Qd D0 B ⟨β', H', F'⟩ w3 ({ target := .collected w.heap.size, args := #[] } :: D) := by
   have h1 : Qd D0 B ⟨upd β H.length 0 (some (w.heap.size + 1, 0)), H ++ [.lp .ready none fn N e ps0.toList ca cb], F⟩ W1 ({ target := .collected w.heap.size, args := #[] } :: D) := by
    obtain ⟨ds, d1, d2, d3⟩ := hm.later k2
    refine ⟨w.heap.size :: ds, by rw [d1]; rfl, List.nodup_cons.2 ⟨fun hin => ?_, d2⟩, fun r hr => ?_⟩
    ·obtain ⟨ds', e1, e2, e3⟩ := hm
     have : ds' = ds := by
      have : ds'.map (fun r => ({ target := .collected r, args := #[] } : Deferred)) = ds.map (fun r => { target := .collected r, args := #[] }) := List.append_cancel_right (e1.symm.trans d1)
      exact (List.map_inj_right (fun a b h => by simpa using h)).1 this
     rw [← this] at hin
     have := (e3 _ hin).2.1
     omega
    ·rcases List.mem_cons.1 hr with rfl | hr
     ·exact ⟨hB, by omega, fun ho => hown1 _ ho rfl, fun hF => absurd (hs.lt _ hF) (by omega), hK1⟩
     ·exact d3 r hr
   exact h1.later hl'
  have fin : ∀ (st : LoopState) (pe : Option Code) (fn' : FuncId) (N' : Nat) (e1 : Env) (ps1 : List Nat) (c1 c2 : Code), st ≠ .busy → H'[H.length]? = some (.lp st pe fn' N' e1 ps1 c1 c2) →
    ∃ w4, (Instr.endLoop (w.heap.size + 1)).run P w3 = .ok pe w4 ∧ Sim ⟨β', H'.set H.length (.lp .exhausted pe fn' N' e1 ps1 c1 c2), F'⟩ w4 ∧ AO ⟨β', H', F'⟩ w3 ⟨β', H'.set H.length (.lp .exhausted pe fn' N' e1 ps1 c1 c2), F'⟩ w4 := by
   intro st pe fn' N' e1 ps1 c1 c2 hst hob
   obtain ⟨b, r, r1, r2, r3, r4, _, _, _, _, _, _, r5, r6⟩ := hs'.loopTurn (st' := .exhausted) (pe' := pe) hob
   have hβ : β' H.length 0 = some (w.heap.size + 1, 0) := ((hl'.has H.length 0 (Gn _ _ _ _ _ (Nat.le_refl _))).2).trans AU
   rw [hβ] at r1
   obtain ⟨rfl, _⟩ : w.heap.size + 1 = b ∧ True := by simpa using r1
   subst r4
   exact ⟨_, run_endLoop (P := P) r2 (by rw [r3]; exact hst), r5, r6⟩
  have hfr : ∀ {c : Ctx} {w4 : World}, AO ⟨β, H, F⟩ w c w4 → MZ c.F w4 → Fr N ({ target := .collected w.heap.size, args := #[] } :: D) c w4 e { a with defers := { target := .collected w.heap.size, args := #[] } :: a.defers } := fun {c w4} hl hgl =>
   ⟨⟨fun s => Rep.mono (hl.mono hs) (hf.env.1 s), hgl⟩, hf.size, by rw [hf.defers]⟩
  unfold Ad4 at hR
  simp only [rangePost]
  split at hR
  ·rename_i hob
   obtain ⟨w4, e1, e2, e3⟩ := fin .ready none _ _ _ _ _ _ (by simp) hob
   exact ⟨none, w4, e1, hk .nor _ _ _ _ _ _ _ hR e2 (hfr ((k2.trans hl').trans e3) e2.glob) (hmk.later e3) ((k2.trans hl').trans e3)⟩
  ·rename_i hob
   obtain ⟨w4, e1, e2, e3⟩ := fin .done (some .ret) _ _ _ _ _ _ (by simp) hob
   exact ⟨some .ret, w4, e1, wpIn_ret (hk .ret _ _ _ _ _ _ _ hR e2 (hfr ((k2.trans hl').trans e3) e2.glob) (hmk.later e3) ((k2.trans hl').trans e3))⟩
  ·rename_i i _ _ _ _ _ _ hob
   obtain ⟨w4, e1, e2, e3⟩ := fin .done (some (.exit _)) _ _ _ _ _ _ (by simp) hob
   exact ⟨some (.exit _), w4, e1, wpIn_exit (hk (.exit _) _ _ _ _ _ _ _ hR e2 (hfr ((k2.trans hl').trans e3) e2.glob) (hmk.later e3) ((k2.trans hl').trans e3))⟩
  ·exact hR.elim

theorem GU {b : Frame} {a : Act} {k : List Item} {cs : List Frame} {w : World} {c : Code} : step P (lone (b.atR a (.code (.scope c) :: k)) cs w) = .next (lone (b.atR a (.code c :: .inScope c :: k)) cs w) :=
 step_lone_go (by simp [stepG, stepG.exec, Frame.atR])
theorem ZX {b : Frame} {a : Act} {k : List Item} {cs : List Frame} {w : World} {c : Code} : step P (lone (b.atR a (.inScope c :: k)) cs w) = .next (lone (b.atR a k) cs w) :=
 step_lone_go (by simp [stepG, stepG.exec, Frame.atR])
/-- A scope through which the run goes without a jump. -/
theorem Ac4 {F : Fence} {n : Nat} {Q : Exit → Act → World → Prop} {a : Act} {w : World} {c : Code} (h : c.wpIn F n P (Exit.noGoto Q) a w) : (Code.scope c).wpIn F n P Q a w := by
 intro b k cs hro hb hr
 have h0 : (lone (b.atR a (.code (.scope c) :: k)) cs w).fenced P F := fenced_calm hb hr rfl
 obtain ⟨e, a₁, w₁, hq, harr⟩ := h b (.inScope c :: k) cs hro hb hr
 cases e with
 | normal => exact ⟨.normal, a₁, w₁, hq, .head h0 GU (StepsIn.trans harr (.one (fenced_calm hb hr rfl) ZX))⟩
 | exit id' =>
  have hx : exitTo id' (.inScope c :: k) = exitTo id' k := by simp [exitTo]
  exact ⟨.exit id', a₁, w₁, hq, fun k' hk => .head h0 GU (harr.1 k' (by rw [hx]; exact hk)),
   fun hr' hk => let ⟨k₁, h1, h2⟩ := harr.2 hr' (by rw [hx]; exact hk); ⟨k₁, h1, .head h0 GU h2⟩⟩
 | goto l => exact hq.elim
 | ret => exact ⟨_, a₁, w₁, hq, .of_steps (.one h0 GU) harr⟩
 | panic ch => exact ⟨_, a₁, w₁, hq, .of_steps (.one h0 GU) harr⟩
 | outgrown => exact ⟨_, a₁, w₁, hq, .of_steps (.one h0 GU) harr⟩

theorem Ag6 {N : Nat} {ro : Option Nat} {nn : Nat} : ∀ (vc : Af) {code : Code}, (ro = none ∨ Zl vc = true) → trC P N code = some (er vc) → ∀ {Q : VEx → Env → List Ob → Prop} {e : Env} {H : List Ob} {β : Nat → Nat → Option (Nat × Nat)} {F : Nat → Prop} {w : World} {a : Act} {QQ : Exit → Act → World → Prop} {B : Nat} {D D0 : List Deferred},
  vwp P vc Q e H → Sim ⟨β, H, F⟩ w → Fr N D ⟨β, H, F⟩ w e a → Qd D0 B ⟨β, H, F⟩ w D → B ≤ w.heap.size →
  (∀ x e' H' β' F' w' a' D', Q x e' H' → Sim ⟨β', H', F'⟩ w' → Fr N D' ⟨β', H', F'⟩ w' e' a' → Qd D0 B ⟨β', H', F'⟩ w' D' → AO ⟨β, H, F⟩ w ⟨β', H', F'⟩ w' → QQ x.ex a' w') → code.wpIn (fz ro) nn P QQ a w := by
 intro vc
 have inv : ∀ {code : Code} {v : Af}, trC P N code = some v → True := fun _ => trivial
 induction vc with
 | ops l kp =>
  intro code hrf ht Q e H β F w a QQ B D D0 h hs hf hm hB hk
  rw [er] at ht
  cases code with
  | region id ops d =>
   cases d with
   | true => exact (FZ ht (by simp) (by simp) (by simp)).elim
   | false =>
    obtain ⟨l', hl, e9⟩ := (AiG ht).resolve_right (by simp)
    simp only [Af.ops.injEq, and_true] at e9
    subst e9
    rw [vwp] at h
    exact wpIn_region_list (AaK hl h hs hf fun e' H' β' F' w' a' k1 k2 k3 k4 => hk .nor _ _ _ _ _ _ _ k1 k2 (k3.forget kp) (hm.later k4) k4)
  | seq x y => simp only [trC] at ht; split at ht <;> simp at ht
  | cond c x y => simp only [trC] at ht; split at ht <;> simp at ht
  | rangeFunc f ps x y => simp only [trC] at ht; split at ht <;> (try split at ht) <;> simp at ht
  | _ => simp [trC] at ht
 | opsZ l zs r kp =>
  intro code hrf ht Q e H β F w a QQ B D D0 h hs hf hm hB hk
  rw [er] at ht
  cases code with
  | region id ops d =>
   cases d with
   | true => exact (FZ ht (by simp) (by simp) (by simp)).elim
   | false =>
    obtain ⟨l', hl, e9⟩ := (AiG ht).resolve_right (by simp)
    simp only [Af.ops.injEq, and_true] at e9
    subst e9
    rw [vwp] at h
    exact wpIn_region_list (AcV hl h hs hf fun e' H' β' F' w' a' k1 k2 k3 k4 => hk .nor _ _ _ _ _ _ _ k1 k2 (k3.forget kp) (hm.later k4) k4)
  | seq x y => simp only [trC] at ht; split at ht <;> simp at ht
  | cond c x y => simp only [trC] at ht; split at ht <;> simp at ht
  | rangeFunc f ps x y => simp only [trC] at ht; split at ht <;> (try split at ht) <;> simp at ht
  | _ => simp [trC] at ht
 | pops l kp =>
  intro code hrf ht Q e H β F w a QQ B D D0 h hs hf hm hB hk
  rw [er] at ht
  cases code with
  | region id ops d =>
   cases d with
   | true => exact (FZ ht (by simp) (by simp) (by simp)).elim
   | false =>
    obtain ⟨l', hl, e9⟩ := (AiG ht).resolve_right (by simp)
    simp only [Af.ops.injEq, and_true] at e9
    subst e9
    rw [vwp] at h
    exact wpIn_region_list (AcW hl h hs hf (fun e' H' β' F' w' a' k1 k2 k3 k4 => hk .nor _ _ _ _ _ _ _ k1 k2 (k3.forget kp) (hm.later k4) k4) fun u H' β' F' w' a' k1 k2 k3 k4 => hk (.pan u) _ _ _ _ _ _ _ k1 k2 k3 (hm.later k4) k4)
  | seq x y => simp only [trC] at ht; split at ht <;> simp at ht
  | cond c x y => simp only [trC] at ht; split at ht <;> simp at ht
  | rangeFunc f ps x y => simp only [trC] at ht; split at ht <;> (try split at ht) <;> simp at ht
  | _ => simp [trC] at ht
 | draw n l kp =>
  intro code hrf ht Q e H β F w a QQ B D D0 h hs hf hm hB hk
  rw [er] at ht
  cases code with
  | region id ops d =>
   cases d with
   | false => exact (F5 ht (by simp) (by simp)).elim
   | true =>
    obtain ⟨bz, hsp⟩ := PT ((AkD ht).resolve_right (by simp))
    obtain ⟨n', l', e9, hmo, hh⟩ := hsp.resolve_right (by simp)
    simp only [Af.draw.injEq, and_true] at e9
    obtain ⟨rfl, rfl⟩ := e9
    rw [vwp] at h
    rcases hh with ⟨hl, hck⟩ | ⟨π, hp, hl, hck⟩
    ·exact Aao WOk.vop hmo hl hck h hs hf ⟨fun e' H' β' F' w' a' k1 k2 k3 k4 => hk .nor _ _ _ _ _ _ _ k1 k2 (k3.forget kp) (hm.later k4) k4, fun _ _ _ _ _ _ (h : False) => h.elim⟩
    ·exact VE WOk.vop hmo hp hl hck h hs hf ⟨fun e' H' β' F' w' a' k1 k2 k3 k4 => hk .nor _ _ _ _ _ _ _ k1 k2 (k3.forget kp) (hm.later k4) k4, fun _ _ _ _ _ _ (h : False) => h.elim⟩
  | seq x y => simp only [trC] at ht; split at ht <;> simp at ht
  | cond c x y => simp only [trC] at ht; split at ht <;> simp at ht
  | rangeFunc f ps x y => simp only [trC] at ht; split at ht <;> (try split at ht) <;> simp at ht
  | _ => simp [trC] at ht
 | pdraw n l kp =>
  intro code hrf ht Q e H β F w a QQ B D D0 h hs hf hm hB hk
  rw [er] at ht
  cases code with
  | region id ops d =>
   cases d with
   | false => exact (F5 ht (by simp) (by simp)).elim
   | true =>
    obtain ⟨bz, hsp⟩ := PT ((AkD ht).resolve_right (by simp))
    obtain ⟨n', l', e9, hmo, hh⟩ := hsp.resolve_right (by simp)
    simp only [Af.draw.injEq, and_true] at e9
    obtain ⟨rfl, rfl⟩ := e9
    rw [vwp] at h
    rcases hh with ⟨hl, hck⟩ | ⟨π, hp, hl, hck⟩
    ·exact Aao WOk.pvop hmo hl hck h hs hf ⟨fun e' H' β' F' w' a' k1 k2 k3 k4 => hk .nor _ _ _ _ _ _ _ k1 k2 (k3.forget kp) (hm.later k4) k4, fun u H' β' F' w' a' k1 k2 k3 k4 => hk (.pan u) _ _ _ _ _ _ _ k1 k2 k3 (hm.later k4) k4⟩
    ·exact VE WOk.pvop hmo hp hl hck h hs hf ⟨fun e' H' β' F' w' a' k1 k2 k3 k4 => hk .nor _ _ _ _ _ _ _ k1 k2 (k3.forget kp) (hm.later k4) k4, fun u H' β' F' w' a' k1 k2 k3 k4 => hk (.pan u) _ _ _ _ _ _ _ k1 k2 k3 (hm.later k4) k4⟩
  | seq x y => simp only [trC] at ht; split at ht <;> simp at ht
  | cond c x y => simp only [trC] at ht; split at ht <;> simp at ht
  | rangeFunc f ps x y => simp only [trC] at ht; split at ht <;> (try split at ht) <;> simp at ht
  | _ => simp [trC] at ht
 | sdraw n l kp =>
  intro code hrf ht Q e H β F w a QQ B D D0 h hs hf hm hB hk
  rw [er] at ht
  cases code with
  | region id ops d =>
   cases d with
   | false => exact (F5 ht (by simp) (by simp)).elim
   | true =>
    obtain ⟨bz, hsp⟩ := PT ((AkD ht).resolve_right (by simp))
    obtain ⟨n', l', e9, hmo, π, hp, hl, hck⟩ := hsp.resolve_left (by simp)
    simp only [Af.sdraw.injEq, and_true] at e9
    obtain ⟨rfl, rfl⟩ := e9
    rw [vwp] at h
    exact VE WOk.pvopS hmo hp hl hck h hs hf ⟨fun e' H' β' F' w' a' k1 k2 k3 k4 => hk .nor _ _ _ _ _ _ _ k1 k2 (k3.forget kp) (hm.later k4) k4, fun u H' β' F' w' a' k1 k2 k3 k4 => hk (.pan u) _ _ _ _ _ _ _ k1 k2 k3 (hm.later k4) k4⟩
  | seq x y => simp only [trC] at ht; split at ht <;> simp at ht
  | cond c x y => simp only [trC] at ht; split at ht <;> simp at ht
  | rangeFunc f ps x y => simp only [trC] at ht; split at ht <;> (try split at ht) <;> simp at ht
  | _ => simp [trC] at ht
 | skip =>
  intro code hrf ht Q e H β F w a QQ B D D0 h hs hf hm hB hk
  rw [er] at ht
  cases code with
  | skip => exact wpIn_skip (hk .nor _ _ _ _ _ _ _ h hs hf hm (AO.refl _ _))
  | label l => exact wpIn_label (hk .nor _ _ _ _ _ _ _ h hs hf hm (AO.refl _ _))
  | region id ops d =>
   cases d
   ·exact (F5 ht (by simp) (by simp)).elim
   ·exact (FZ ht (by simp) (by simp) (by simp)).elim
  | seq x y => simp only [trC] at ht; split at ht <;> simp at ht
  | cond c x y => simp only [trC] at ht; split at ht <;> simp at ht
  | rangeFunc f ps x y => simp only [trC] at ht; split at ht <;> (try split at ht) <;> simp at ht
  | _ => simp [trC] at ht
 | seq x y ihx ihy =>
  intro code hrf ht Q e H β F w a QQ B D D0 h hs hf hm hB hk
  rw [er] at ht
  cases code with
  | region id ops d =>
   cases d
   ·exact (F5 ht (by simp) (by simp)).elim
   ·exact (FZ ht (by simp) (by simp) (by simp)).elim
  | seq cx cy =>
   simp only [trC] at ht
   split at ht
   ·rename_i vx vy hx hy
    simp only [Option.some.injEq, Af.seq.injEq] at ht
    obtain ⟨rfl, rfl⟩ := ht
    rw [vwp] at h
    have hrx : ro = none ∨ Zl x = true := hrf.imp id fun h => by simp only [Zl, Bool.and_eq_true] at h; exact h.1
    have hry : ro = none ∨ Zl y = true := hrf.imp id fun h => by simp only [Zl, Bool.and_eq_true] at h; exact h.2
    refine wpIn_seq (ihx hrx hx h hs hf hm hB ?_)
    intro x e' H' β' F' w' a' D' k1 k2 k3 km k4
    cases x with
    | nor => exact ihy hry hy k1 k2 k3 km (Nat.le_trans hB k4.size) fun x e2 H2 β2 F2 w2 a2 D2 m1 m2 m3 mm m4 => hk _ _ _ _ _ _ _ _ m1 m2 m3 mm (k4.trans m4)
    | exit i => exact hk (.exit i) _ _ _ _ _ _ _ k1 k2 k3 km k4
    | ret => exact hk .ret _ _ _ _ _ _ _ k1 k2 k3 km k4
    | pan u => exact hk (.pan u) _ _ _ _ _ _ _ k1 k2 k3 km k4
   ·simp at ht
  | cond c x y => simp only [trC] at ht; split at ht <;> simp at ht
  | rangeFunc f ps x y => simp only [trC] at ht; split at ht <;> (try split at ht) <;> simp at ht
  | _ => simp [trC] at ht
 | cond c x y ihx ihy =>
  intro code hrf ht Q e H β F w a QQ B D D0 h hs hf hm hB hk
  rw [er] at ht
  cases code with
  | region id ops d =>
   cases d
   ·exact (F5 ht (by simp) (by simp)).elim
   ·exact (FZ ht (by simp) (by simp) (by simp)).elim
  | seq x y => simp only [trC] at ht; split at ht <;> simp at ht
  | cond cc cx cy =>
   simp only [trC] at ht
   split at ht
   ·rename_i vx vy hx hy
    simp only [Option.some.injEq, Af.cond.injEq] at ht
    obtain ⟨rfl, rfl, rfl⟩ := ht
    rw [vwp] at h
    split at h
    ·rename_i t hc
     have hrx : ro = none ∨ Zl x = true := hrf.imp id fun h => by simp only [Zl, Bool.and_eq_true] at h; exact h.1
     have hry : ro = none ∨ Zl y = true := hrf.imp id fun h => by simp only [Zl, Bool.and_eq_true] at h; exact h.2
     refine wpIn_cond_split (hf.env.val hc) (fun htt => ?_) (fun htf => ?_)
     ·rw [if_pos htt] at h; exact ihx hrx hx h hs hf hm hB hk
     ·rw [if_neg (by rw [htf]; simp)] at h; exact ihy hry hy h hs hf hm hB hk
    ·exact h.elim
   ·simp at ht
  | rangeFunc f ps x y => simp only [trC] at ht; split at ht <;> (try split at ht) <;> simp at ht
  | _ => simp [trC] at ht
 | block id x ih =>
  intro code hrf ht Q e H β F w a QQ B D D0 h hs hf hm hB hk
  rw [er] at ht
  cases code with
  | region id ops d =>
   cases d
   ·exact (F5 ht (by simp) (by simp)).elim
   ·exact (FZ ht (by simp) (by simp) (by simp)).elim
  | seq x y => simp only [trC] at ht; split at ht <;> simp at ht
  | cond c x y => simp only [trC] at ht; split at ht <;> simp at ht
  | rangeFunc f ps x y => simp only [trC] at ht; split at ht <;> (try split at ht) <;> simp at ht
  | block id' c =>
   simp only [trC, Option.map_eq_some_iff, Af.block.injEq] at ht
   obtain ⟨vx, hx, rfl, rfl⟩ := ht
   rw [vwp] at h
   refine wpIn_block (ih hrf hx h hs hf hm hB ?_)
   intro x e' H' β' F' w' a' D' k1 k2 k3 km k4
   cases x with
   | nor => exact hk .nor _ _ _ _ _ _ _ k1 k2 k3 km k4
   | exit i =>
    show Exit.inBlock _ QQ (.exit i) a' w'
    simp only [Exit.inBlock]
    simp only at k1
    split at k1
    ·rename_i hi; rw [if_pos hi]; exact hk .nor _ _ _ _ _ _ _ k1 k2 k3 km k4
    ·rename_i hi; rw [if_neg hi]; exact hk (.exit i) _ _ _ _ _ _ _ k1 k2 k3 km k4
   | ret => exact hk .ret _ _ _ _ _ _ _ k1 k2 k3 km k4
   | pan u => exact hk (.pan u) _ _ _ _ _ _ _ k1 k2 k3 km k4
  | _ => simp [trC] at ht
 | loop lv x ih =>
  intro code hrf ht Q e H β F w a QQ B D D0 h hs hf hm hB hk
  rw [er] at ht
  cases code with
  | region id ops d =>
   cases d
   ·exact (F5 ht (by simp) (by simp)).elim
   ·exact (FZ ht (by simp) (by simp) (by simp)).elim
  | seq x y => simp only [trC] at ht; split at ht <;> simp at ht
  | cond c x y => simp only [trC] at ht; split at ht <;> simp at ht
  | rangeFunc f ps x y => simp only [trC] at ht; split at ht <;> (try split at ht) <;> simp at ht
  | loop c =>
   simp only [trC, Option.map_eq_some_iff, Af.loop.injEq] at ht
   obtain ⟨vx, hx, _, rfl⟩ := ht
   rw [vwp] at h
   obtain ⟨I, n, h0, hstep⟩ := h
   refine wpIn_loop_ghost (fun n a' w' => ∃ e' H' β' F' D', I n e' H' ∧ Sim ⟨β', H', F'⟩ w' ∧ Fr N D' ⟨β', H', F'⟩ w' e' a' ∧ Qd D0 B ⟨β', H', F'⟩ w' D' ∧ AO ⟨β, H, F⟩ w ⟨β', H', F'⟩ w') n ⟨_, _, _, _, _, h0, hs, hf.forget lv, hm, AO.refl _ _⟩ ?_
   rintro n a' w' ⟨e', H', β', F', D', k1, k2, k3, km, k4⟩
   refine ih hrf hx (hstep n e' H' k1) k2 k3 km (Nat.le_trans hB k4.size) ?_
   intro x e2 H2 β2 F2 w2 a2 D2 m1 m2 m3 mm m4
   cases x with
   | nor =>
    obtain ⟨m, g, hmn, ⟨hg, hb⟩, hI⟩ := m1
    have hf3 := m3.forget lv
    rcases hb with hle | ⟨hbe, hbh⟩
    ·rw [List.take_of_length_le hle] at hI
     exact ⟨m, hmn, _, _, _, _, _, hI, m2, hf3, mm, k4.trans m4⟩
    exact ⟨m, hmn, _, _, _, _, _, hI, m2.cut hbh, ⟨⟨fun s => Rep.cut (Yk hbe s) (hf3.env.1 s), hf3.env.2⟩, hf3.size, hf3.defers⟩, mm.cut, (k4.trans m4).cut hg⟩
   | exit i => exact hk (.exit i) _ _ _ _ _ _ _ m1 m2 m3 mm (k4.trans m4)
   | ret => exact hk .ret _ _ _ _ _ _ _ m1 m2 m3 mm (k4.trans m4)
   | pan u => exact hk (.pan u) _ _ _ _ _ _ _ m1 m2 m3 mm (k4.trans m4)
  | _ => simp [trC] at ht
 | exit id =>
  intro code hrf ht Q e H β F w a QQ B D D0 h hs hf hm hB hk
  rw [er] at ht
  cases code with
  | region id ops d =>
   cases d
   ·exact (F5 ht (by simp) (by simp)).elim
   ·exact (FZ ht (by simp) (by simp) (by simp)).elim
  | seq x y => simp only [trC] at ht; split at ht <;> simp at ht
  | cond c x y => simp only [trC] at ht; split at ht <;> simp at ht
  | rangeFunc f ps x y => simp only [trC] at ht; split at ht <;> (try split at ht) <;> simp at ht
  | exit id' =>
   simp only [trC, Option.some.injEq, Af.exit.injEq] at ht; subst ht
   exact wpIn_exit (hk (.exit _) _ _ _ _ _ _ _ h hs hf hm (AO.refl _ _))
  | _ => simp [trC] at ht
 | ret =>
  intro code hrf ht Q e H β F w a QQ B D D0 h hs hf hm hB hk
  rw [er] at ht
  cases code with
  | region id ops d =>
   cases d
   ·exact (F5 ht (by simp) (by simp)).elim
   ·exact (FZ ht (by simp) (by simp) (by simp)).elim
  | seq x y => simp only [trC] at ht; split at ht <;> simp at ht
  | cond c x y => simp only [trC] at ht; split at ht <;> simp at ht
  | rangeFunc f ps x y => simp only [trC] at ht; split at ht <;> (try split at ht) <;> simp at ht
  | ret => exact wpIn_ret (hk .ret _ _ _ _ _ _ _ h hs hf hm (AO.refl _ _))
  | _ => simp [trC] at ht
 | dead =>
  intro code hrf ht Q e H β F w a QQ B D D0 h
  rw [vwp] at h; exact h.elim
 | scope x ih =>
  intro code hrf ht Q e H β F w a QQ B D D0 h hs hf hm hB hk
  rw [er] at ht
  cases code with
  | region id ops d =>
   cases d
   ·exact (F5 ht (by simp) (by simp)).elim
   ·exact (FZ ht (by simp) (by simp) (by simp)).elim
  | seq x y => simp only [trC] at ht; split at ht <;> simp at ht
  | cond c x y => simp only [trC] at ht; split at ht <;> simp at ht
  | rangeFunc f ps x y => simp only [trC] at ht; split at ht <;> (try split at ht) <;> simp at ht
  | scope c =>
   simp only [trC, Option.map_eq_some_iff, Af.scope.injEq] at ht
   obtain ⟨vx, hx, rfl⟩ := ht
   rw [vwp] at h
   refine Ac4 (ih hrf hx h hs hf hm hB ?_)
   intro x e' H' β' F' w' a' D' k1 k2 k3 km k4
   cases x with
   | nor => exact hk .nor _ _ _ _ _ _ _ k1 k2 k3 km k4
   | exit i => exact hk (.exit i) _ _ _ _ _ _ _ k1 k2 k3 km k4
   | ret => exact hk .ret _ _ _ _ _ _ _ k1 k2 k3 km k4
   | pan u => exact hk (.pan u) _ _ _ _ _ _ _ k1 k2 k3 km k4
  | _ => simp [trC] at ht
 | own s k x ih =>
  intro code hrf ht Q e H β F w a QQ B D D0 h hs hf hm hB hk
  rw [er] at ht
  rw [vwp] at h
  split at h
  ·rename_i hg
   obtain ⟨k1, k2, k3⟩ := hs.own k
   have hv : a.tmps.getD s undef = .slice none 0 0 := by
    have := hf.env.1 s; rw [hg, Rep.val] at this; exact this
   refine ih hrf ht h k1 ⟨⟨fun s' => ?_, k1.glob⟩, hf.size, hf.defers⟩ (hm.later k2) hB fun x' e' H' β' F' w' a' D' m1 m2 m3 mm m4 => hk x' e' H' β' F' w' a' D' m1 m2 m3 mm (k2.trans m4)
   rw [BK]
   by_cases hss : s = s'
   ·subst hss; rw [if_pos rfl, hv]; exact Rep.of1 k3 (by simp) (by simp)
   ·rw [if_neg hss]; exact Rep.mono (k2.mono hs) (hf.env.1 s')
  ·exact ih hrf ht h hs hf hm hB hk
 | ownB s p k x ih =>
  intro code hrf ht Q e H β F w a QQ B D D0 h hs hf hm hB hk
  rw [er] at ht
  rw [vwp] at h
  split at h
  ·rename_i id ver p0 hg
   split at h
   ·rename_i v y hid
    obtain ⟨rfl, h⟩ := h
    split at h
    ·rename_i hgp
     split at h
     ·rename_i x' hsp
      obtain ⟨k1, k2, k3⟩ := hs.own k
      have hlt : id < H.length := (List.getElem?_eq_some_iff.1 hid).1
      have hid' : (H ++ [Ob.obj 0 (.arr 0 k [])])[id]? = some (.obj v y) := by rw [List.getElem?_append_left hlt]; exact hid
      obtain ⟨q1, q2⟩ := k1.turn (o' := .obj v x') (w' := w) (β' := upd β H.length 0 none) hid' rfl rfl (Nat.le_refl _) (fun _ _ _ => rfl) (fun b off e => .inl ⟨off, e⟩) rfl rfl rfl (Nat.le_refl _) (fun _ _ => rfl) (fun _ _ _ => rfl) (fun hm => by
       rcases k1.ob id _ hid' with ⟨r0, r1⟩ | ⟨b, off, pre, vs, post, t, fr, r0, r1, r2, r3, r4⟩
       ·refine .inl ⟨r0, ?_⟩
        exact Aj.mono hm (Xx r1 hgp (fun m hm' => by rw [Aj] at hm'; rw [hm'.1]; exact k3) hsp)
       ·refine .inr ⟨b, off, pre, vs, post, t, fr, r0, r1, r2, r3, ?_⟩
        exact Aj.mono hm (Xx r4 hgp (fun m hm' => by rw [Aj] at hm'; rw [hm'.1]; exact k3) hsp))
      rw [List.set_append_left _ _ hlt] at q1 q2
      exact ih hrf ht h q1 ⟨⟨fun s' => Rep.mono (q2.mono k1) (Rep.mono (k2.mono hs) (hf.env.1 s')), q1.glob⟩, hf.size, hf.defers⟩ (hm.later (k2.trans q2)) hB fun x' e' H' β' F' w' a' D' m1 m2 m3 mm m4 => hk x' e' H' β' F' w' a' D' m1 m2 m3 mm ((k2.trans q2).trans m4)
     ·exact h.elim
    ·exact ih hrf ht h hs hf hm hB hk
   ·exact h.elim
  ·exact h.elim
 | frz s x ih =>
  intro code hrf ht Q e H β F w a QQ B D D0 h hs hf hm hB hk
  rw [er] at ht
  rw [vwp] at h
  split at h
  ·rename_i k id ver p off n cp hg
   split at h
   ·rename_i v y hid
    obtain ⟨rfl, h⟩ := h
    split at h
    ·rename_i cs hcs
     obtain ⟨k1, k2⟩ := hs.freeze hid rfl
     have hr : Rep ⟨β, H, F⟩ w (get e s) (a.tmps.getD s undef) := hf.env.1 s
     rw [hg] at hr
     have hr' : Rep ⟨β, H.set id (.gone v), fun b => F b ∨ ∃ off, β id v = some (b, off)⟩ w (.sl k cs) (a.tmps.getD s undef) := by
      rcases hr with (hr | hr | ⟨us, hr, hr2⟩) | ⟨xs, vs, hr, _⟩
      ·cases hr
      ·cases hr
      ·exact .inl (.inr (.inr ⟨us, hs.give hid hcs hr, by rw [hr2]; rfl⟩))
      ·cases hr
     refine ih hrf ht h k1 ⟨⟨fun s' => ?_, k1.glob⟩, hf.size, hf.defers⟩ (hm.later k2) hB fun x' e' H' β' F' w' a' D' m1 m2 m3 mm m4 => hk x' e' H' β' F' w' a' D' m1 m2 m3 mm (k2.trans m4)
     rw [BK]
     by_cases hss : s = s'
     ·subst hss; rw [if_pos rfl]; exact hr'
     ·rw [if_neg hss]; exact Rep.mono (k2.mono hs) (hf.env.1 s')
    ·exact h.elim
   ·exact h.elim
  ·exact h.elim
 | ownT s p t x ih =>
  intro code hrf ht Q e H β F w a QQ B D D0 h hs hf hm hB hk
  rw [er] at ht
  rw [vwp] at h
  split at h
  ·rename_i id ver p0 hg
   split at h
   ·rename_i v y hid
    obtain ⟨rfl, h⟩ := h
    split at h
    ·rename_i hgp
     split at h
     ·rename_i x' hsp
      obtain ⟨k1, k2, k3⟩ := hs.ownBld t
      have hlt : id < H.length := (List.getElem?_eq_some_iff.1 hid).1
      have hid' : (H ++ [Ob.bld 0 t []])[id]? = some (.obj v y) := by rw [List.getElem?_append_left hlt]; exact hid
      obtain ⟨q1, q2⟩ := k1.turn (o' := .obj v x') (w' := w) (β' := upd β H.length 0 none) hid' rfl rfl (Nat.le_refl _) (fun _ _ _ => rfl) (fun b off e => .inl ⟨off, e⟩) rfl rfl rfl (Nat.le_refl _) (fun _ _ => rfl) (fun _ _ _ => rfl) (fun hm => by
       rcases k1.ob id _ hid' with ⟨r0, r1⟩ | ⟨b, off, pre, vs, post, t, fr, r0, r1, r2, r3, r4⟩
       ·refine .inl ⟨r0, ?_⟩
        exact Aj.mono hm (Xx r1 hgp (fun m hm' => by rw [Aj] at hm'; rw [hm'.1]; exact k3) hsp)
       ·refine .inr ⟨b, off, pre, vs, post, t, fr, r0, r1, r2, r3, ?_⟩
        exact Aj.mono hm (Xx r4 hgp (fun m hm' => by rw [Aj] at hm'; rw [hm'.1]; exact k3) hsp))
      rw [List.set_append_left _ _ hlt] at q1 q2
      exact ih hrf ht h q1 ⟨⟨fun s' => Rep.mono (q2.mono k1) (Rep.mono (k2.mono hs) (hf.env.1 s')), q1.glob⟩, hf.size, hf.defers⟩ (hm.later (k2.trans q2)) hB fun x' e' H' β' F' w' a' D' m1 m2 m3 mm m4 => hk x' e' H' β' F' w' a' D' m1 m2 m3 mm ((k2.trans q2).trans m4)
     ·exact h.elim
    ·exact ih hrf ht h hs hf hm hB hk
   ·exact h.elim
  ·exact h.elim
 | rfunc g0 ps aS bd iha ihb =>
  intro code hrf ht Q e H β F w a QQ B D D0 h hs hf hm hB hk
  obtain rfl : ro = none := hrf.resolve_right (by simp [Zl])
  rw [er] at ht
  cases code with
  | region id ops d =>
   cases d
   ·exact (F5 ht (by simp) (by simp)).elim
   ·exact (FZ ht (by simp) (by simp) (by simp)).elim
  | seq x y => simp only [trC] at ht; split at ht <;> simp at ht
  | cond c x y => simp only [trC] at ht; split at ht <;> simp at ht
  | rangeFunc f0 ps0 ca cb =>
   simp only [trC] at ht
   split at ht
   ·rename_i hps
    split at ht
    ·rename_i va vb hca hcb
     simp only [Option.some.injEq, Af.rfunc.injEq] at ht
     obtain ⟨rfl, rfl, rfl, rfl⟩ := ht
     rw [vwp] at h
     obtain ⟨-, -, h⟩ := h
     split at h
     ·rename_i g first caps hg
      obtain ⟨hgo, h⟩ := h
      have hr : Rep ⟨β, H, F⟩ w (.fn (.func g) first caps) (a.eval f0) := hf.env.rep (x := f0) hg
      have h1 := hr.inv1 (by simp) (by simp) (by simp) (by simp) (by simp)
      rw [Aj] at h1
      obtain ⟨us, vs, hv1, hfi, hc⟩ := h1
      have hv' : a.eval f0 = .func (.func g) us.toArray vs.toArray := by simpa using hv1
      refine ZC hs hf hm hB hv' hgo hfi hc (fun fn => h N fn ca cb ⟨hca, hcb, hps⟩) hk
     ·rename_i g xs ys hg
      obtain ⟨hxy, hgo, h⟩ := h
      rw [Bool.and_eq_true, Array.isEmpty_iff, Array.isEmpty_iff] at hxy
      obtain ⟨rfl, rfl⟩ := hxy
      have hv' : a.eval f0 = .func (.func g) #[] #[] := hf.env.val hg
      refine ZC (us := []) (vs := []) (first := []) (caps := []) hs hf hm hB hv' hgo (by rw [Bd]) (by rw [Bd]) (fun fn => by simpa using h N fn ca cb ⟨hca, hcb, hps⟩) hk
     ·exact h.elim
    ·cases ht
   ·cases ht
  | _ => simp [trC] at ht
end sound
end Go.Proofs.YtingoaihnlhiaaaDoor

