/- What the proof of GraphBasesCard stands on (texts merged; names shortened by a program): part 2. -/
import Derived.Test.YtingoaihnlhiaaaDoorQA
import Derived.RangeFuncCalls
import Derived.Lib.AppendZerosOnto
import Derived.RangeFuncSeq
import Derived.TacticsIn
import Derived.Deep.LoopGhost
import Derived.Scope
namespace Go.Proofs.YtingoaihnlhiaaaDoor
open Go.RowKit
variable [AtT]
set_option linter.unusedSectionVars false
set_option linter.unusedSimpArgs false
set_option linter.unusedVariables false
set_option autoImplicit false

/-- WHAT A CALL DOES, in the words of the machine of values. -/
def As1 (P : Program) (f : FuncId) (args : List TV) (H : List Ob) (R : TV → List Ob → Prop) : Prop :=
 ∀ (β : Nat → Nat → Option (Nat × Nat)) (F : Nat → Prop) (w : World) (vs : List Value), Sim ⟨β, H, F⟩ w → Atv ⟨β, H, F⟩ w args vs →
  Calls P f vs.toArray w fun e w' => ∃ v x β' H' F', e = .returned v ∧ R x H' ∧ Sim ⟨β', H', F'⟩ w' ∧ Atb ⟨β, H, F⟩ w ⟨β', H', F'⟩ w' ∧ Rep ⟨β', H', F'⟩ w' x v

theorem As1.mono {P : Program} {f : FuncId} {args : List TV} {H : List Ob} {R R' : TV → List Ob → Prop} (h : As1 P f args H R) (hr : ∀ x H', R x H' → R' x H') : As1 P f args H R' :=
 fun β F w vs hs hv => (h β F w vs hs hv).mono fun _ _ ⟨v, x, β', H', F', h1, h2, h3⟩ => ⟨v, x, β', H', F', h1, hr _ _ h2, h3⟩

/-- The same of a call that may end in a panic with a value. -/
def ACS (P : Program) (f : FuncId) (args : List TV) (H : List Ob) (R : TV → List Ob → Prop) (RP : Value → List Ob → Prop) : Prop :=
 ∀ (β : Nat → Nat → Option (Nat × Nat)) (F : Nat → Prop) (w : World) (vs : List Value), Sim ⟨β, H, F⟩ w → Atv ⟨β, H, F⟩ w args vs →
  Calls P f vs.toArray w fun e w' => ∃ β' H' F', Sim ⟨β', H', F'⟩ w' ∧ Atb ⟨β, H, F⟩ w ⟨β', H', F'⟩ w' ∧ ((∃ v x, e = .returned v ∧ R x H' ∧ Rep ⟨β', H', F'⟩ w' x v) ∨ ∃ u, e = .panicked [{ v := u, recovered := false }] ∧ RP u H')
theorem ACS.mono {P : Program} {f : FuncId} {args : List TV} {H : List Ob} {R R' : TV → List Ob → Prop} {RP RP' : Value → List Ob → Prop} (h : ACS P f args H R RP) (hr : ∀ x H', R x H' → R' x H') (hp : ∀ u H', RP u H' → RP' u H') : ACS P f args H R' RP' :=
 fun β F w vs hs hv => (h β F w vs hs hv).mono fun _ _ ⟨β', H', F', h1, h2, h3⟩ => ⟨β', H', F', h1, h2, h3.imp (fun ⟨v, x, k1, k2, k3⟩ => ⟨v, x, k1, hr _ _ k2, k3⟩) fun ⟨u, k1, k2⟩ => ⟨u, k1, hp _ _ k2⟩⟩
theorem As1.mayP {P : Program} {f : FuncId} {args : List TV} {H : List Ob} {R : TV → List Ob → Prop} {RP : Value → List Ob → Prop} (h : As1 P f args H R) : ACS P f args H R RP :=
 fun β F w vs hs hv => (h β F w vs hs hv).mono fun _ _ ⟨v, x, β', H', F', h1, h2, h3, h4, h5⟩ => ⟨β', H', F', h3, h4, .inl ⟨v, x, h1, h2, h5⟩⟩

/-- The fence of all, in a round or in none. -/
def fz (ro : Option Nat) : Fence := { Fence.wide with round := ro }
/-- Whether in a round or in none: the operation goes so. -/
def OW (P : Program) (o : Oper) (a : Act) (w : World) (KK : Act → World → Prop) (Q : Exit → Act → World → Prop) : Prop := ∀ (ro : Option Nat) (n : Nat), o.wpIn (fz ro) n P a w KK Q
theorem ANQ {ro : Option Nat} {n : Nat} {P : Program} {row : String} {args : Array Value} {w : World} {R : Value → World → Prop} (h : Rows P row args w R) : RowsIn (fz ro) n P row args w R := by
 intro c cs _
 obtain ⟨v, w', r, s⟩ := h c cs
 exact ⟨v, w', r, (stepsIn_wide.2 s : StepsIn (Machine.fenced P Fence.wide) P _ _)⟩
theorem OW.of_wp {P : Program} {o : Oper} {a : Act} {w : World} {KK : Act → World → Prop} {Q : Exit → Act → World → Prop} (hd : ∀ c, o.op ≠ .defer c) (h : o.wp P a w KK Q) : OW P o a w KK Q := by
 intro ro n
 refine ⟨fun _ _ => trivial, ?_⟩
 rw [show (fz ro).round = ro from rfl, Oper.semAt_eq ro a.eval o hd]
 unfold Oper.wp at h
 generalize (execOp a.eval o).run P w = r at *
 cases r with
 | ok x w' =>
  cases x with
  | value v => exact h
  | skip => exact h
  | defer d => exact h
  | enter f args => exact ⟨fun h => by simp [fz, Fence.wide] at h, ((callsIn_wide (n := n - 1)).2 h : CallsIn Fence.wide (n - 1) P f args w' _)⟩
  | row r args => exact ⟨fun h => by simp [fz, Fence.wide] at h, ANQ h⟩
  | _ => exact h.elim
 | halt x w' => cases x <;> first | exact h | exact h.elim

/-- WHAT A ROUND OF A LOOP DOES, called by the function that the loop goes over. -/
def AG7 (P : Program) (id ver : Nat) (args : List TV) (H : List Ob) (R : TV → List Ob → Prop) : Prop :=
 ∀ (β : Nat → Nat → Option (Nat × Nat)) (F : Nat → Prop) (w : World) (vs : List Value) (b o : Nat), Sim ⟨β, H, F⟩ w → Atv ⟨β, H, F⟩ w args vs → β id ver = some (b, o) →
  ∀ n, YieldAt (fz none) n P b vs.toArray w fun e w' => ∃ v x β' H' F', e = .returned v ∧ R x H' ∧ Sim ⟨β', H', F'⟩ w' ∧ Atb ⟨β, H, F⟩ w ⟨β', H', F'⟩ w' ∧ Rep ⟨β', H', F'⟩ w' x v
theorem AG7.mono {P : Program} {id ver : Nat} {args : List TV} {H : List Ob} {R R' : TV → List Ob → Prop} (h : AG7 P id ver args H R) (hr : ∀ x H', R x H' → R' x H') : AG7 P id ver args H R' :=
 fun β F w vs b o hs hv hb n => by
  obtain ⟨fn, tmps, aS, bd, h1, h2⟩ := h β F w vs b o hs hv hb n
  exact ⟨fn, tmps, aS, bd, h1, h2.mono fun _ _ ⟨v, x, β', H', F', h1, h2, h3⟩ => ⟨v, x, β', H', F', h1, hr _ _ h2, h3⟩⟩

/-- A function of the program's own text. -/
def AEh (P : Program) (f : FuncId) : Bool := match P.funcs[f]? with
 | some fn => fn.body.isSome && !(fn.name == "runtime.NumGoroutine")
 | none => false

/-- Through an interface: which function; is the receiver loaded first (an aggregate? how many cells)? -/
def ASf (P : Program) (t : TypeId) (nm : String) : Option (FuncId × Option (Bool × Nat)) := match P.info? t with
 | some i => (match i.methods.find? (·.name == nm) with
  | some m => if m.path.isEmpty then (match m.func with
   | some (f, true) => (match P.underlying t with
    | some (.pointer _) => some (f, none)
    | _ => none)
   | some (f, false) => (match P.underlying t with
    | some (.pointer el) => (match AKH P el, ABY P el with
     | some ag, some sz => some (f, some (ag, sz))
     | _, _ => none)
    | some _ => some (f, none)
    | none => none)
   | none => none) else none
  | none => none)
 | none => none
theorem AMk {P : Program} {t : TypeId} {nm : String} {r : FuncId × Option (Bool × Nat)} (h : ASf P t nm = some r) : ∃ i m d pr, P.info? t = some i ∧ i.methods.find? (·.name == nm) = some m ∧ m.path = #[] ∧ m.func = some (r.1, pr) ∧ P.underlying t = some d ∧
  ((pr = true ∧ (∃ el, d = .pointer el) ∧ r.2 = none) ∨ (pr = false ∧ (∀ el, d ≠ .pointer el) ∧ r.2 = none) ∨ (pr = false ∧ ∃ el ag sz, d = .pointer el ∧ AKH P el = some ag ∧ ABY P el = some sz ∧ r.2 = some (ag, sz))) := by
 unfold ASf at h
 split at h
 ·rename_i i hi
  split at h
  ·rename_i m hm
   split at h
   ·rename_i hp
    have hp' : m.path = #[] := by simpa using hp
    split at h
    ·rename_i f hf
     split at h
     ·rename_i el hu; cases h; exact ⟨i, m, _, true, hi, hm, hp', hf, hu, .inl ⟨rfl, ⟨el, rfl⟩, rfl⟩⟩
     ·cases h
    ·rename_i f hf
     split at h
     ·rename_i el hu
      split at h
      ·rename_i ag sz h1 h2; cases h; exact ⟨i, m, _, false, hi, hm, hp', hf, hu, .inr (.inr ⟨rfl, el, ag, sz, rfl, h1, h2, rfl⟩)⟩
      ·cases h
     ·rename_i d hne hu; cases h; exact ⟨i, m, d, false, hi, hm, hp', hf, hu, .inr (.inl ⟨rfl, fun el e => hne el (by rw [e]), rfl⟩)⟩
     ·cases h
    ·cases h
   ·cases h
  ·cases h
 ·cases h
theorem ASZ {P : Program} {w : World} {ts : Array TypeId} {t : TypeId} {a : Addr} {x y : String} : (Builtin.ssaWrapNilChk_ ts t #[.pointer (some a), strVal x, strVal y]).run P w = .ok (.pointer (some a)) w := by rfl
theorem AMK {P : Program} {t : TypeId} {nm : String} {f : FuncId} (h : ASf P t nm = some (f, none)) (w : World) (v : Value) (k : Nat) : (method (k + 1) t v nm).run P w = .ok (f, v) w := by
 obtain ⟨i, m, d, pr, h1, h2, h3, h4, h5, h6⟩ := AMk h
 have hp : (follow m.path.toList t (.val v)).run P w = .ok (t, .val v) w := by rw [h3]; simp [follow]
 rcases h6 with ⟨rfl, ⟨el, rfl⟩, _⟩ | ⟨rfl, hne, _⟩ | ⟨rfl, el, ag, sz, rfl, _, _, h7⟩
 ·simp [method, typeInfo, h1, h2, hp, h4, receiverAt, run_underlying h5, Place.get]
 ·have hr : ∀ q, (receiverAt t (.val v) false q).run P w = .ok v w := by
   intro q
   cases d <;> first | exact absurd rfl (hne _) | simp [receiverAt, run_underlying h5, Place.get]
  simp [method, typeInfo, h1, h2, hp, h4, hr]
 ·cases h7
theorem AHa {P : Program} {t : TypeId} {nm : String} {f : FuncId} {ag : Bool} {sz : Nat} (h : ASf P t nm = some (f, some (ag, sz))) {c : Ctx} {w : World} {b off : Nat} {y : TV} {us : List Value} (hr : AsV c w y us) (hc : Aua w b off us) (hy : AID ag sz y) (k : Nat) :
  (method (k + 1) t (.pointer (some ⟨b, off, none⟩)) nm).run P w = .ok (f, mkV y us) w := by
 obtain ⟨i, m, d, pr, h1, h2, h3, h4, h5, h6⟩ := AMk h
 have hp : ∀ v, (follow m.path.toList t (.val v)).run P w = .ok (t, .val v) w := by intro v; rw [h3]; simp [follow]
 rcases h6 with ⟨rfl, ⟨el, rfl⟩, h7⟩ | ⟨rfl, hne, h7⟩ | ⟨rfl, el, ag, sz, rfl, g1, g2, h7⟩
 ·cases h7
 ·cases h7
 ·cases h7
  have hl := Aye g1 g2 hr hc hy
  simp only [Instr.loadAt, Instr.sureAddr] at hl
  have hl' : (loadVar el ⟨b, off, none⟩).run P w = .ok (mkV y us) w := by simpa using hl
  simp [method, typeInfo, h1, h2, hp, h4, receiverAt, run_underlying h5, Place.get, h3, follow, ASZ, asAddr, hl']

/-- The operations that make or write objects. -/
inductive SOp where
 | alloc (z : TV)
 | box (x : Opd)
 | bslice (k n : Nat) (z : TV) (ps : List (Nat × Opd))
 | store (sz : Nat) (x v : Opd)
 | mks (k bytes : Nat) (z : TV) (l c : Opd)
 | app (k bytes : Nat) (et : TypeId) (x y : Opd)
 | appS (et : TypeId) (x y : Opd)
 /-- a loop over a map begins; its next entry, whichever; an entry goes; a slice is cleared -/
 | rngM (x : Opd)
 | nxtM (x : Opd)
 | delM (kk : MK) (m k : Opd)
 | clrS (k : Nat) (z : TV) (x : Opd)
 /-- a slice compared with nil (of an empty one it is not known) -/
 | eqS (x : Opd) (neg : Bool)
 /-- n zeros behind a nil slice -/
 | appZ (k bytes : Nat) (z : TV) (x n : Opd)
 | s2b (x : Opd)
 | copy (k : Nat) (x y : Opd)
 | copyS (x y : Opd)
 | call (f : FuncId) (args : List Opd)
 | callv (x : Opd) (args : List Opd)
 /-- a method through an interface -/
 | inv (x : Opd) (nm : String) (args : List Opd)
 /-- maps: made; a value for a key; the entry of a key, made if it is not there; a value for an entry -/
 | mkm (kk : MK) (h : Option Opd)
 | mupd (kk : MK) (m k x : Opd)
 | ment (kk : MK) (z : TV) (m k : Opd)
 | mest (m st x : Opd)
 /-- a new object; what type its block has is kept in mind -/
 | allocT (z : TV) (t : TypeId)
 | boxT (x : Opd) (t : TypeId)
 /-- a loop over a text begins; its next round -/
 | rngS (x : Opd)
 | nxtS (x : Opd)
 /-- strings.Builder's String -/
 | bstr (f : FuncId) (x : Opd)
 /-- a panic (told of in VmI: AB6) -/
 | pan (x : Opd)
 deriving Inhabited

/-- What strings.Builder's String does: the row of bytes is given away. -/
def AY3 (P : Program) (f : FuncId) : Prop := ∀ (id ver j v cp : Nat) (p : List (Nat × Nat)) (x a : TV) (l : List UInt8) (H : List Ob) (K : TV → List Ob → Prop), H[id]? = some (.obj ver x) → Ax6 p x = some (.agg [a, .os 1 j v [] 0 l.length cp]) → As7 a = 1 →
 H[j]? = some (.bld v AKR l) → l.length ≤ 9223372036854775807 → K (.val (.string (str l))) (H.set j (.gone v)) → As1 P f [.op id ver p] H K
/-- A builder's row: where it lies, what it holds. -/
def AM4 (H : List Ob) (x : TV) : Option (Nat × Nat × List UInt8) := match x with
 | .op id ver p => (match H[id]? with
  | some (.obj v y) => if v = ver then (match Ax6 p y with
   | some (.agg [a, .os 1 j v2 [] 0 n cp]) => (match H[j]? with
    | some (.bld v3 t l) => if v3 = v2 ∧ t = AKR ∧ n = l.length ∧ As7 a = 1 then some (j, v2, l) else none
    | _ => none)
   | _ => none) else none
  | _ => none)
 | _ => none
/-- What becomes of an object behind whose n elements from off on some are appended; how many it has. -/
def AQH (o : Option Ob) (ver k : Nat) (et : TypeId) (off n : Nat) (ys : List TV) : Option Ob := match o with
 | some (.obj v (.arr _ k'' cs)) => if v = ver ∧ k'' = k then some (.obj (ver + 1) (.arr (n + ys.length) k ((cs.drop off).take n ++ ys))) else none
 | some (.bld v t l) => if v = ver ∧ k = 1 ∧ t = et ∧ off = 0 ∧ ys.all AJP = true then some (.bld (ver + 1) t (l.take n ++ ys.map AGG)) else none
 | _ => none
def AVN : Option Ob → Nat
 | some (.obj _ (.arr _ _ cs)) => cs.length
 | some (.bld _ _ l) => l.length
 | _ => 0
/-- Appended to a row. -/
def AK3 (k bytes : Nat) (et : TypeId) (x : TV) (ys : List TV) (H : List Ob) (K : TV → List Ob → Prop) : Prop := match x with
 | .val (.slice none 0 0) => (ys.length * bytes ≤ 140737488355328 ∧ ys.length ≤ 9223372036854775807) ∧ K (.os k H.length 1 [] 0 ys.length ys.length) (H ++ [.obj 1 (.arr ys.length k ys)])
 | .os k' id ver [] off n cp => k' = k ∧ (match AQH H[id]? ver k et off n ys with
  | some o => (off + n ≤ AVN H[id]? ∧ (n + ys.length) * bytes ≤ 140737488355328 ∧ n + ys.length ≤ 9223372036854775807) ∧ K (.os k id (ver + 1) [] 0 (n + ys.length) (n + ys.length)) (H.set id o)
  | none => False)
 | _ => False

/-- Copied over a part of an array. -/
def ACr (k : Nat) (x : TV) (ys : List TV) (H : List Ob) (K : TV → List Ob → Prop) : Prop := match x with
 | .os k' id ver p off n cp => k' = k ∧ (match H[id]? with
  | some (.obj v z) => v = ver ∧ (match Ax6 p z with
   | some (.arr N k'' cs) => k'' = k ∧ off + n ≤ cs.length ∧ (match ACP p z (.arr N k (cs.take off ++ (ys.take n ++ cs.drop (off + min ys.length n)))) with
    | some z' => K (.val (.int .i64 (min ys.length n : Nat))) (H.set id (.obj ver z'))
    | none => False)
   | _ => False)
  | _ => False)
 | _ => False

/-- What is loaded through a pointer. -/
def ldT (H : List Ob) (ag : Bool) (sz : Nat) (x : TV) (K : TV → Prop) : Prop := match x with
 | .fp y => AID ag sz y ∧ K y
 | .op id ver p => (match H[id]? with
  | some (.obj v z) => v = ver ∧ (match Ax6 p z with
   | some y => AID ag sz y ∧ K y
   | none => False)
  | _ => False)
 | _ => False
/-- What a method is called with, through an interface. -/
def AYN (P : Program) (nm : String) (H : List Ob) (x : TV) (K : FuncId → TV → Prop) : Prop := match x with
 | .ifc t r => (match ASf P t nm with
  | some (f, none) => AEh P f = true ∧ K f r
  | some (f, some (ag, sz)) => AEh P f = true ∧ ldT H ag sz r fun y => K f y
  | none => False)
 | _ => False
def sop (P : Program) (o : SOp) (e : Env) (H : List Ob) (K : TV → List Ob → Prop) : Prop := match o with
 | .pan _ => False
 | .alloc z => K (.op H.length 0 []) (H ++ [.obj 0 z])
 | .box x => lays (x.ev e) = true ∧ K (.op H.length 0 []) (H ++ [.obj 0 (x.ev e)])
 | .bslice k n z ps => (Au9 e (List.replicate n k) ps ∧ Atz e ps ∧ n ≤ 1000) ∧ K (.os k H.length 0 [] 0 n n) (H ++ [.obj 0 (.arr n k (Avz e (List.replicate n z) ps))])
 | .store sz x v => (lays (v.ev e) = true ∧ As7 (v.ev e) = sz) ∧ (match x.ev e with
  | .op id ver p => (match H[id]? with
   | some (.obj vr y) => vr = ver ∧ (match ACP p y (v.ev e) with | some y' => K .any (H.set id (.obj ver y')) | none => False)
   | _ => False)
  | _ => False)
 | .mks k bytes z l c => match l.ev e, c.ev e with
  | .val (.int _ l), .val (.int _ c) => (0 ≤ l ∧ l ≤ c ∧ (bytes : Int) * c ≤ 281474976710656 ∧ c ≤ 9223372036854775807) ∧ K (.os k H.length 0 [] 0 l.toNat c.toNat) (H ++ [.obj 0 (.arr c.toNat k (List.replicate c.toNat z))])
  | _, _ => False
 | .app k bytes et x y => match At7 H k (y.ev e) with
  | some ys => AK3 k bytes et (x.ev e) ys H K
  | none => False
 | .appS et x y => match y.ev e with
  | .val (.string s) => AK3 1 1 et (x.ev e) ((bl s).map by8) H K
  | _ => False
 | .rngM x => match x.ev e with
  | .mp id 0 => (match stO H[id]? with
   | some (_, _, cl) => K (.op H.length 0 []) (H ++ [.mit id [] cl])
   | none => False)
  | _ => False
 | .nxtM x => match x.ev e with
  | .op id 0 [] => (match H[id]? with
   | some (.mit m sn cl) => (match stO H[m]? with
    | some (kk, zs, cl') => (cl' = cl ∧ ∀ z ∈ zs, z.1 < cl) ∧ (∀ z ∈ zs, z.1 ∉ sn → K (.tup [.val (.bool true), kTV kk z.2.1, z.2.2]) (H.set id (.mit m (sn ++ [z.1]) cl))) ∧ ((∀ z ∈ zs, z.1 ∈ sn) → K (.tup [.val (.bool false)]) H)
    | none => False)
   | _ => False)
  | _ => False
 | .delM kk m k => match m.ev e, AtN kk (k.ev e) with
  | .mp id 0, some kb => (match stO H[id]? with
   | some (kk', zs, cl) => kk' = kk ∧ K .any (H.set id (.mpd kk (zs.eraseIdx (AEM kb (zs.map (·.2)))) cl))
   | none => False)
  | _, _ => False
 | .clrS k z x => match x.ev e with
  | .os k' id ver p off n cp => ACr k (.os k' id ver p off n cp) (List.replicate n z) H fun _ H' => K .any H'
  | .val (.slice none 0 0) => K .any H
  | _ => False
 | .eqS x neg => match x.ev e with
  | .val (.slice a _ _) => K (.val (.bool (xor neg a.isNone))) H
  | .sl _ cs => (cs = [] → K (.val (.bool true)) H ∧ K (.val (.bool false)) H) ∧ (cs ≠ [] → K (.val (.bool neg)) H)
  | .os _ _ _ _ _ n _ => (n = 0 → K (.val (.bool true)) H ∧ K (.val (.bool false)) H) ∧ (n ≠ 0 → K (.val (.bool neg)) H)
  | _ => False
 | .appZ k bytes z x n => match x.ev e, n.ev e with
  | .val (.slice none 0 0), .val (.int .i64 j) => (0 ≤ j ∧ (bytes : Int) * j ≤ 140737488355328 ∧ j ≤ 9223372036854775807) ∧ K (.os k H.length 0 [] 0 j.toNat j.toNat) (H ++ [.obj 0 (.arr j.toNat k (List.replicate j.toNat z))])
  | _, _ => False
 | .copy k x y => match At7 H k (y.ev e) with
  | some ys => ACr k (x.ev e) ys H K
  | none => False
 | .copyS x y => match y.ev e with
  | .val (.string s) => ACr 1 (x.ev e) ((bl s).map by8) H K
  | _ => False
 | .s2b x => match x.ev e with
  | .val (.string s) => (bl s).length ≤ 9223372036854775807 ∧ K (.os 1 H.length 0 [] 0 (bl s).length (bl s).length) (H ++ [.obj 0 (.arr (bl s).length 1 ((bl s).map by8))])
  | _ => False
 | .call f args => (∀ x ∈ args, At1 (x.ev e) = false) ∧ As1 P f (args.map (·.ev e)) H K
 | .callv x args => (∀ x ∈ args, At1 (x.ev e) = false) ∧ (match x.ev e with
  | .fn (.func f) first caps => AEh P f = true ∧ As1 P f (first ++ args.map (·.ev e) ++ caps) H K
  | .val (.func (.func f) xs ys) => (xs.isEmpty && ys.isEmpty) = true ∧ AEh P f = true ∧ As1 P f (args.map (·.ev e)) H K
  | .yl id ver => AG7 P id ver (args.map (·.ev e)) H K
  | _ => False)
 | .inv x nm args => (∀ y ∈ args, At1 (y.ev e) = false) ∧ AYN P nm H (x.ev e) fun f r => As1 P f (r :: args.map (·.ev e)) H K
 | .mkm kk h => (match h with
  | none => True
  | some x => (match x.ev e with | .val (.int _ _) => True | _ => False)) ∧ K (.mp H.length 0) (H ++ [.mpo kk []])
 | .mupd kk m k x => match m.ev e, AtN kk (k.ev e) with
  | .mp id 0, some kb => (match H[id]? with
   | some (.mpo kk' es) => (kk' = kk ∧ lays (x.ev e) = true) ∧ K .any (H.set id (.mpo kk (AwB kb (x.ev e) es)))
   | _ => False)
  | _, _ => False
 | .ment kk z m k => match m.ev e, AtN kk (k.ev e) with
  | .mp id 0, some kb => (match H[id]? with
   | some (.mpo kk' es) => kk' = kk ∧ K (.tup [(Aw0 kb es).getD z, .val (.int .i64 (AEM kb es))]) (H.set id (.mpo kk (AwB kb ((Aw0 kb es).getD z) es)))
   | _ => False)
  | _, _ => False
 | .mest m st x => match m.ev e, st.ev e with
  | .mp id 0, .val (.int _ j) => (match H[id]? with
   | some (.mpo kk es) => (0 ≤ j ∧ lays (x.ev e) = true) ∧ (match es[j.toNat]? with
    | some (k, _) => K .any (H.set id (.mpo kk (es.set j.toNat (k, x.ev e))))
    | none => False)
   | _ => False)
  | _, _ => False
 | .allocT z t => K (.op H.length 0 []) (H ++ [.obj 0 z, .fact H.length 0 t (As7 z)])
 | .bstr f x => AY3 P f ∧ (match AM4 H (x.ev e) with
  | some (j, v, l) => l.length ≤ 9223372036854775807 ∧ K (.val (.string (str l))) (H.set j (.gone v))
  | none => False)
 | .rngS x => match x.ev e with
  | .val (.string s) => K (.op H.length 0 []) (H ++ [.sit (bl s) 0])
  | _ => False
 | .nxtS x => match x.ev e with
  | .op id 0 [] => (match H[id]? with
   | some (.sit s pos) => if pos < s.length then K (.tup [.val (.bool true), .val (.int .i64 (pos : Int)), .val (.int .i32 ((Utf8.decode (str s) pos).1 : Int))]) (H.set id (.sit s (pos + (Utf8.decode (str s) pos).2))) else K (.tup [.val (.bool false)]) H
   | _ => False)
  | _ => False
 | .boxT x t => lays (x.ev e) = true ∧ K (.op H.length 0 []) (H ++ [.obj 0 (x.ev e), .fact H.length 0 t (As7 (x.ev e))])

def ANR (P : Program) (t : TypeId) : Bool := match P.underlying t with
 | some (.int _) => true
 | _ => false
def trS (P : Program) : Op → Option SOp
 | .alloc t => match P.info? t with
  | some i => (match i.zero with | some z => (zT P 400 t z.cells.toList).map fun z => if APf.contains t then .allocT z t else .alloc z | none => none)
  | none => none
 | .box t x => some (if APf.contains t then .boxT (trO x) t else .box (trO x))
 | .buildSlice t n ps => match AtH P t with
  | some (k, et) => (match P.info? et with
   | some i => (match i.zero with
    | some z => if z.cells.size = k ∧ k ≠ 0 ∧ n * k ≤ 16777216 then (zT P 400 et z.cells.toList).map fun z => .bslice k n z (ps.toList.map fun q => (q.1, trO q.2)) else none
    | none => none)
   | none => none)
  | none => none
 | .binOp op t x y _ => match P.underlying t with
  | some (.slice _) => if AKU op && APo y then some (.eqS (trO x) (AwP op)) else none
  | _ => none
 | .store t x v => (ABY P t).map fun sz => .store sz (trO x) (trO v)
 | .makeSlice t l c => match AtH P t with
  | some (k, et) => (match P.info? et with
   | some i => (match i.zero with
    | some z => if z.cells.size = k ∧ k ≠ 0 then (zT P 400 et z.cells.toList).map fun z => .mks k i.bytes z (trO l) (trO c) else none
    | none => none)
   | none => none)
  | none => none
 | .convert src dst x => if ACX P src && AMr P dst then some (.s2b (trO x)) else none
 | .panic x => some (.pan (trO x))
 | .range t x => if ACX P t then some (.rngS (trO x)) else if ANA P t then some (.rngM (trO x)) else none
 | .next x true => some (.nxtS (trO x))
 | .next x false => some (.nxtM (trO x))
 | .makeMap t r => match P.underlying t with
  | some (.map kt _) => (ANZ P kt).map fun kk => .mkm kk (r.map trO)
  | _ => none
 | .mapUpdate t m k x => match P.underlying t with
  | some (.map kt _) => (ANZ P kt).map fun kk => .mupd kk (trO m) (trO k) (trO x)
  | _ => none
 | .mapEntry t m k => match ANd P t with
  | some (_, kk, _, zx) => some (.ment kk zx (trO m) (trO k))
  | none => none
 | .entryStore t m st x => some (.mest (trO m) (trO st) (trO x))
 | .call c => match c.callee, c.args.toList, c.argTypes.toList with
  | .builtin .append, [x, y], [t, ty] => (match AtH P t with
   | some (k, et) => (match P.info? et with
    | some i => (match i.zero with
     | some z => if z.cells.size = k then (if ACX P ty then (if k = 1 ∧ i.bytes = 1 then some (.appS et (trO x) (trO y)) else none) else if (AtH P ty).isSome then some (.app k i.bytes et (trO x) (trO y)) else if ANR P ty && decide (k ≠ 0) then (zT P 400 et z.cells.toList).map fun zx => .appZ k i.bytes zx (trO x) (trO y) else none) else none
     | none => none)
    | none => none)
   | none => none)
  | .builtin .delete, [m, k], t :: _ => (match P.underlying t with
   | some (.map kt _) => (ANZ P kt).map fun kk => .delM kk (trO m) (trO k)
   | _ => none)
  | .builtin .clear, [x], [t] => (match AtH P t with
   | some (k, et) => (match P.info? et with
    | some i => (match i.zero with
     | some z => if z.cells.size = k ∧ k ≠ 0 then (zT P 400 et z.cells.toList).map fun zx => .clrS k zx (trO x) else none
     | none => none)
    | none => none)
   | none => none)
  | .builtin .copy, [x, y], [t, ty] => (match AtH P t with
   | some (k, _) => if ACX P ty then (if k = 1 then some (.copyS (trO x) (trO y)) else none) else if (AtH P ty).isSome then some (.copy k (trO x) (trO y)) else none
   | none => none)
  | .value (.func f), args, _ => if AEh P f then (match args with
   | [x] => if AVX.contains f then some (.bstr f (trO x)) else some (.call f [trO x])
   | args => some (.call f (args.map trO))) else none
  | .value (.tmp t), args, _ => some (.callv (.t t) (args.map trO))
  | .invoke r nm, args, _ => some (.inv (trO r) nm (args.map trO))
  | _, _, _ => none
 | _ => none

section sound
variable {P : Program} {β : Nat → Nat → Option (Nat × Nat)} {H : List Ob} {F : Nat → Prop} {w : World} {a : Act} {e : Env} {K : TV → List Ob → Prop}

/-- The operation does what K asks. -/
def Aw1 (P : Program) (β : Nat → Nat → Option (Nat × Nat)) (H : List Ob) (F : Nat → Prop) (w : World) (a : Act) (K : TV → List Ob → Prop) (op : Op) : Prop :=
 ∀ (o : Oper) (KK : Act → World → Prop) (Q : Exit → Act → World → Prop), o.op = op → (∀ c, op ≠ .defer c) →
  (∀ x H' β' F' w' v, K x H' → Sim ⟨β', H', F'⟩ w' → Atb ⟨β, H, F⟩ w ⟨β', H', F'⟩ w' → Rep ⟨β', H', F'⟩ w' x v → KK (a.put o.dst v) w') → OW P o a w KK Q

theorem As3.does (hs : Sim ⟨β, H, F⟩ w) {op : Op} (h : ∀ ty, As3 P ⟨β, H, F⟩ w a (fun x => K x H) op ty) : Aw1 P β H F w a K op := by
 intro o KK Q ho hnd hk
 refine OW.of_wp (by rw [ho]; exact hnd) ?_
 obtain ⟨x, v, hr, hx, hK⟩ := h o.type o ho rfl
 unfold Oper.wp
 rw [hr]
 exact hk x H β F w v hK hs (Atb.refl _ _) hx

theorem Aw1.mk {op : Op} {s : Oper → Sem Value} {x : TV} {H' : List Ob} {β' : Nat → Nat → Option (Nat × Nat)} {F' : Nat → Prop} {w' : World} {v : Value} (he : ∀ o : Oper, o.op = op → execOp a.eval o = (do pure (.value (← s o)))) (hr : ∀ o, (s o).run P w = .ok v w')
  (hs : Sim ⟨β', H', F'⟩ w') (hl : Atb ⟨β, H, F⟩ w ⟨β', H', F'⟩ w') (hx : Rep ⟨β', H', F'⟩ w' x v) (hk : K x H') : Aw1 P β H F w a K op := by
 intro o KK Q ho hnd hkk
 refine OW.of_wp (by rw [ho]; exact hnd) ?_
 unfold Oper.wp
 rw [he o ho, Sem.run_bind, hr o]
 exact hkk x H' β' F' w' v hk hs hl hx

theorem ALt (n : Nat) : AYH n (0, 0) := fun o _ h => by simp at h
theorem AvU (β' : Nat → Nat → Option (Nat × Nat)) (H : List Ob) (o : Ob) (F : Nat → Prop) (v : Nat) (hv : v ≤ o.ver) : Ctx.has ⟨β', H ++ [o], F⟩ H.length v := ⟨o, by simp, hv⟩

theorem AVk (hs : Sim ⟨β, H, F⟩ w) {t : TypeId} {i : TypeInfo} {z : Value} {x : TV} (h1 : P.info? t = some i) (h2 : i.zero = some z) (h3 : zT P 400 t z.cells.toList = some x) (h : sop P (.alloc x) e H K) : Aw1 P β H F w a K (.alloc t) := by
 obtain ⟨hz, _⟩ := Axl (c := ⟨β, H, F⟩) (w := w) h3
 obtain ⟨k1, k2⟩ := hs.newObj (post := []) hz t (0, 0) (ALt _)
 refine Aw1.mk (s := fun _ => Instr.alloc t true (.tuple #[])) (v := .pointer (some ⟨w.heap.size, 0, none⟩)) (fun o ho => by simp only [execOp, ho]) (fun o => ?_) k1 k2 (Rep.mk_op (AvU _ _ _ _ _ (Nat.le_refl _)) Atg rfl) h
 simp [Instr.alloc, zeroValue, typeInfo, h1, h2, newVar, newRow, newObj, Sem.run]

/-- A new block's type is kept in mind. -/
theorem Sim.newObjT (hs : Sim ⟨β, H, F⟩ w) {x : TV} {vs : List Value} (hr : AsV ⟨β, H, F⟩ w x vs) (t : TypeId) : ∃ β', Sim ⟨β', H ++ [.obj 0 x, .fact H.length 0 t (As7 x)], F⟩ (w.alloc (.cells (vs ++ []).toArray t (0, 0))) ∧
  Atb ⟨β, H, F⟩ w ⟨β', H ++ [.obj 0 x, .fact H.length 0 t (As7 x)], F⟩ (w.alloc (.cells (vs ++ []).toArray t (0, 0))) ∧ β' H.length 0 = some (w.heap.size, 0) := by
 obtain ⟨k1, k2⟩ := hs.newObj (post := []) hr t (0, 0) (ALt _)
 have hnew := Atq w (.cells (vs ++ []).toArray t (0, 0))
 obtain ⟨q1, q2⟩ := k1.addFact (i := H.length) (v := 0) (t := t) (m := As7 x) (AvU _ _ _ _ _ (Nat.le_refl _)) (fun b o e => by
  rw [Atg] at e; cases e
  exact ⟨rfl, by unfold World.shape?; rw [hnew, ← hr.length]; simp⟩)
 rw [List.append_assoc] at q1 q2
 exact ⟨_, q1, k2.trans q2, by rw [ADv (by simp)]; exact Atg⟩
theorem AL8 (β' : Nat → Nat → Option (Nat × Nat)) (H : List Ob) (o o' : Ob) (F : Nat → Prop) (v : Nat) (hv : v ≤ o.ver) : Ctx.has ⟨β', H ++ [o, o'], F⟩ H.length v := ⟨o, by simp, hv⟩
theorem AQr (hs : Sim ⟨β, H, F⟩ w) {t : TypeId} {i : TypeInfo} {z : Value} {x : TV} (h1 : P.info? t = some i) (h2 : i.zero = some z) (h3 : zT P 400 t z.cells.toList = some x) (h : sop P (.allocT x t) e H K) : Aw1 P β H F w a K (.alloc t) := by
 obtain ⟨hz, _⟩ := Axl (c := ⟨β, H, F⟩) (w := w) h3
 obtain ⟨β', k1, k2, k3⟩ := hs.newObjT hz t
 refine Aw1.mk (s := fun _ => Instr.alloc t true (.tuple #[])) (v := .pointer (some ⟨w.heap.size, 0, none⟩)) (fun o ho => by simp only [execOp, ho]) (fun o => ?_) k1 k2 (Rep.mk_op (AL8 _ _ _ _ _ _ (Nat.le_refl _)) k3 rfl) h
 simp [Instr.alloc, zeroValue, typeInfo, h1, h2, newVar, newRow, newObj, Sem.run]
theorem AWr (hs : Sim ⟨β, H, F⟩ w) (he : Ato ⟨β, H, F⟩ w e a) {t : TypeId} {x : Operand} (h : sop P (.boxT (trO x) t) e H K) : Aw1 P β H F w a K (.box t x) := by
 simp only [sop] at h
 obtain ⟨hl, h⟩ := h
 obtain ⟨β', k1, k2, k3⟩ := hs.newObjT ((he.ev x).cells hl) t
 refine Aw1.mk (s := fun _ => Instr.box t (a.eval x)) (v := .pointer (some ⟨w.heap.size, 0, none⟩)) (fun o ho => by simp only [execOp, ho]) (fun o => ?_) k1 k2 (Rep.mk_op (AL8 _ _ _ _ _ _ (Nat.le_refl _)) k3 rfl) h
 simp [Instr.box, newVar, newRow, newObj, Sem.run]

theorem A0w (hs : Sim ⟨β, H, F⟩ w) (he : Ato ⟨β, H, F⟩ w e a) {t : TypeId} {x : Operand} (h : sop P (.box (trO x)) e H K) : Aw1 P β H F w a K (.box t x) := by
 simp only [sop] at h
 obtain ⟨hl, h⟩ := h
 obtain ⟨k1, k2⟩ := hs.newObj (post := []) ((he.ev x).cells hl) t (0, 0) (ALt _)
 refine Aw1.mk (s := fun _ => Instr.box t (a.eval x)) (v := .pointer (some ⟨w.heap.size, 0, none⟩)) (fun o ho => by simp only [execOp, ho]) (fun o => ?_) k1 k2 (Rep.mk_op (AvU _ _ _ _ _ (Nat.le_refl _)) Atg rfl) h
 simp [Instr.box, newVar, newRow, newObj, Sem.run]

theorem Ay8 {c : Ctx} {w : World} {x : TV} {z : Array Value} (hz : AsV c w x z.toList) (h0 : z.size ≠ 0) : ∀ n, AsX c w (List.replicate n x) (madeCells z (n * z.size)).toList
 | 0 => by simp [madeCells, AsX]
 | n + 1 => by
  rw [List.replicate_succ, AsX]
  refine ⟨z.toList, (madeCells z (n * z.size)).toList, ?_, hz, Ay8 hz h0 n⟩
  unfold madeCells
  apply List.ext_getElem?
  intro j
  simp only [Array.toList_map, Array.toList_range, List.getElem?_map]
  have hp : 0 < z.size := Nat.pos_of_ne_zero h0
  by_cases hj : j < z.size
  ·rw [List.getElem?_append_left (by simpa using hj), List.getElem?_range (by rw [Nat.add_mul]; omega)]
   simp [Nat.mod_eq_of_lt hj, hj]
  ·rw [List.getElem?_append_right (by simp; omega)]
   simp only [Array.length_toList, List.getElem?_map]
   by_cases hj2 : j < (n + 1) * z.size
   ·rw [List.getElem?_range hj2, List.getElem?_range (by rw [Nat.add_mul] at hj2; omega)]
    simp only [Option.map_some]
    rw [show j = j - z.size + z.size from by omega, Nat.add_mod_right]
    simp
   ·rw [List.getElem?_eq_none (by simp; omega), List.getElem?_eq_none (by rw [Nat.add_mul] at hj2; simp; omega)]

theorem Ay6 {x : TV} {vs post : List Value} {t : TypeId} {fr : Nat × Nat} {n N k cap cp : Nat} (hv : (⟨w.heap.size, 0, none⟩ : Addr) = ⟨w.heap.size, 0, none⟩) (hcap : cap ≤ 9223372036854775807) (hn : n ≤ cap) (hcp : cp ≤ cap) (hroom : cap * k ≤ (vs ++ post).length) {w0 : World} (hw0 : w0.heap.size = w.heap.size) :
  Rep ⟨upd β H.length 0 (some (w.heap.size, 0)), H ++ [.obj 0 x], F⟩ (w0.alloc (.cells (vs ++ post).toArray t fr)) (.os k H.length 0 [] 0 n cp) (.slice (some ⟨w.heap.size, 0, none⟩) n cap) := by
 refine Rep.of1 ?_ (by simp) (by simp)
 rw [AsV]
 refine ⟨AvU _ _ _ _ _ (Nat.le_refl _), .inr ⟨w.heap.size, 0, cap, t, (vs ++ post).length, Atg, by simp [Avm], hn, hcap, ?_, by simpa [Avm] using hroom, hcp⟩⟩
 rw [← hw0]
 have := Atq w0 (.cells (vs ++ post).toArray t fr)
 simp only [World.shape?, this, List.size_toArray]

theorem AZQ (hs : Sim ⟨β, H, F⟩ w) (he : Ato ⟨β, H, F⟩ w e a) {t et : TypeId} {k : Nat} {i : TypeInfo} {z : Value} {x : TV} (h0 : AtH P t = some (k, et)) (h1 : P.info? et = some i) (h2 : i.zero = some z) (h3 : z.cells.size = k ∧ k ≠ 0) (h4 : zT P 400 et z.cells.toList = some x)
  {l cp : Operand} (h : sop P (.mks k i.bytes x (trO l) (trO cp)) e H K) : Aw1 P β H F w a K (.makeSlice t l cp) := by
 obtain ⟨g1, g2⟩ := Atx h0
 obtain ⟨hz, hzp⟩ := Axl (c := Ctx.bare ⟨β, H, F⟩) (w := w) h4
 have hik : i.size = k := by unfold ABY at g2; rw [h1] at g2; simpa using g2
 simp only [sop] at h
 split at h
 ·rename_i kl l' kc c' hl hc
  obtain ⟨⟨b1, b2, b3, b4⟩, h⟩ := h
  have hm := Ay8 hz (by rw [h3.1]; exact h3.2) c'.toNat
  have hx : As7 x = k := by rw [← hz.length]; simpa using h3.1
  have hrow : AsV ⟨β, H, F⟩ w (.arr c'.toNat k (List.replicate c'.toNat x)) (madeCells z.cells (c'.toNat * z.cells.size)).toList := by
   rw [AsV]; exact ⟨by simp, fun y hy => by rw [List.eq_of_mem_replicate hy]; exact hx, hm⟩
  obtain ⟨k1, k2⟩ := hs.newObj (post := []) hrow et (0, 0) (ALt _)
  have hr := run_make (P := P) w t et i z g1 h1 h2 kl kc l' c' b1 b2 b3 b4
  rw [List.append_nil, Array.toArray_toList] at k1 k2
  refine Aw1.mk (s := fun _ => Instr.makeSlice t (a.eval l) (a.eval cp)) (fun o ho => by simp only [execOp, ho]) (fun o => by rw [he.val hl, he.val hc, hr, hik, ← h3.1]) k1 k2 ?_ h
  have := Ay6 (β := β) (H := H) (F := F) (w := w) (x := .arr c'.toNat k (List.replicate c'.toNat x)) (vs := (madeCells z.cells (c'.toNat * z.cells.size)).toList) (post := []) (t := et) (fr := (0, 0)) (n := l'.toNat) (N := 0) (k := k) (cap := c'.toNat) (cp := c'.toNat) rfl (by omega) (by omega) (Nat.le_refl _) (by simp [size_madeCells, h3.1]) (w0 := w) rfl
  rwa [List.append_nil, Array.toArray_toList] at this
 ·exact h.elim

theorem AZV (hs : Sim ⟨β, H, F⟩ w) (he : Ato ⟨β, H, F⟩ w e a) {src dst : TypeId} (h1 : (ACX P src && AMr P dst) = true) {x : Operand} (h : sop P (.s2b (trO x)) e H K) : Aw1 P β H F w a K (.convert src dst x) := by
 rw [Bool.and_eq_true] at h1
 have g1 := AxD h1.1
 obtain ⟨et, g2, g3⟩ := AId h1.2
 simp only [sop] at h
 split at h
 ·rename_i s hx
  obtain ⟨hlen, h⟩ := h
  have hsz : (bl s).length = s.size := by simp [bl]
  have hr := run_bytes_of_string (P := P) w src dst et s g1 g2 g3
  rw [show Value.slice (some ⟨w.heap.size, 0, none⟩) s.size (grownCap w s.size 0 et) = .slice (some ⟨w.heap.size, 0, none⟩) (bl s).length (grownCap w s.size 0 et) from by rw [hsz]] at hr
  have hge := grownCap_ge w s.size 0 et
  have hcm := grownCap_le_maxLen w s.size 0 et (by unfold maxLen; omega)
  have hrow : AsV ⟨β, H, F⟩ w.drew (.arr (bl s).length 1 ((bl s).map by8)) ((bl s).map fun b => Value.int .u8 b.toNat) := by
   rw [AsV]; exact ⟨by simp, by simp [As7], Av3 _⟩
  have hbr : bytesRow s (grownCap w s.size 0 et) = (((bl s).map fun b => Value.int .u8 b.toNat) ++ List.replicate (grownCap w s.size 0 et - s.size) (Value.int .u8 0)).toArray := by
   apply Array.ext'; simp [bytesRow, bl]
  rw [hbr] at hr
  generalize grownCap w s.size 0 et = cap at *
  generalize hrp : List.replicate (cap - s.size) (Value.int .u8 0) = post at *
  have hpl : post.length = cap - s.size := by rw [← hrp]; simp
  obtain ⟨k1, k2⟩ := (hs.heap (w' := w.drew) rfl).newObj (post := post) hrow et ((((bl s).map fun b => Value.int .u8 b.toNat) ++ post).toArray.size, (((bl s).map fun b => Value.int .u8 b.toNat) ++ post).toArray.size + 1) (fun o ho hh => by
   simp only [List.size_toArray] at hh; omega)
  refine Aw1.mk (s := fun _ => convert src dst (a.eval x)) (fun o ho => by simp only [execOp, ho]) (fun o => by rw [he.val hx, hr]) k1 ((Atb.heap (w := w) (w' := w.drew) rfl rfl rfl rfl).trans k2) ?_ h
  refine Ay6 (β := β) (H := H) (F := F) (w := w) (N := 0) rfl (by unfold maxLen at hcm; omega) (by omega) (by omega) ?_ (w0 := w.drew) rfl
  simp only [List.length_append, List.length_map, hpl, hsz]; omega
 ·exact h.elim

theorem AX3 (hs : Sim ⟨β, H, F⟩ w) (he : Ato ⟨β, H, F⟩ w e a) {t : TypeId} (h1 : ACX P t = true) {x : Operand} (h : sop P (.rngS (trO x)) e H K) : Aw1 P β H F w a K (.range t x) := by
 have g1 := AxD h1
 simp only [sop] at h
 split at h
 ·rename_i s hx
  have es : (⟨(bl s).toArray⟩ : ByteArray) = s := by simp [bl]
  obtain ⟨k1, k2⟩ := hs.new (.sit (bl s) 0) rfl (some (w.heap.size, 0)) (w' := w.alloc (.stringIter s 0)) (fun b off e => by cases e; exact Nat.le_refl _) rfl rfl rfl (by simp) (fun b hb => AuD w _ hb) (fun hm => ⟨w.heap.size, Atg, by rw [es]; exact Atq w _⟩)
  refine Aw1.mk (s := fun _ => Instr.range t (a.eval x)) (v := .pointer (some ⟨w.heap.size, 0, none⟩)) (fun o ho => by simp only [execOp, ho]) (fun o => ?_) k1 k2 (Rep.mk_op (AvU _ _ _ _ _ (Nat.le_refl _)) Atg rfl) h
  rw [he.val hx]
  simp [Instr.range, run_underlying g1, newObj, Sem.run]
 ·exact h.elim
theorem AYf (hs : Sim ⟨β, H, F⟩ w) (he : Ato ⟨β, H, F⟩ w e a) {x : Operand} (h : sop P (.nxtS (trO x)) e H K) : Aw1 P β H F w a K (.next x true) := by
 simp only [sop] at h
 split at h
 ·rename_i id hx
  split at h
  ·rename_i s pos hid
   obtain ⟨b, hb, hh⟩ := hs.ob id _ hid
   have hb' : β id 0 = some (b, 0) := hb
   obtain ⟨_, b2, o, hb2, hv⟩ := (he.rep hx).op
   have hb2' : β id 0 = some (b2, o) := hb2
   rw [hb'] at hb2'; cases hb2'
   have hv' : a.eval x = .pointer (some ⟨b, 0, none⟩) := hv
   have hsz : (⟨s.toArray⟩ : ByteArray).size = s.length := by show s.toArray.size = _; simp
   by_cases hp : pos < s.length
   ·rw [if_pos hp] at h
    have hlt := (Array.getElem?_eq_some_iff.1 hh).1
    obtain ⟨k1, k2⟩ := hs.turn (β' := β) (o' := .sit s (pos + (Utf8.decode (str s) pos).2)) (w' := { w with heap := w.heap.setIfInBounds b (.stringIter ⟨s.toArray⟩ (pos + (Utf8.decode (str s) pos).2)) }) hid rfl rfl (Nat.le_refl _) (fun _ _ _ => rfl) (fun b1 off e => .inl ⟨off, e⟩) rfl rfl rfl (by simp)
     (fun b1 hb1 => by
      by_cases e : b1 = b
      ·subst e
       have h1 : (w.heap.setIfInBounds b1 (.stringIter ⟨s.toArray⟩ (pos + (Utf8.decode (str s) pos).2)))[b1]? = some (.stringIter ⟨s.toArray⟩ (pos + (Utf8.decode (str s) pos).2)) := by simp [hlt]
       simp only [World.shape?, h1, hh]
      ·simp [World.shape?, Array.getElem?_setIfInBounds_ne (Ne.symm e)])
     (fun b1 hb1 hne => by
      have e : b1 ≠ b := fun e => hne 0 (e ▸ hb')
      simp [Array.getElem?_setIfInBounds_ne (Ne.symm e)])
     (fun hm => ⟨b, hb', by simp [hlt]⟩)
    refine Aw1.mk (s := fun o => Instr.next (a.eval x) true o.type) (v := .tuple #[.bool true, .int .i64 pos, .int .i32 (Utf8.decode (str s) pos).1]) (fun o ho => by simp only [execOp, ho]) (fun o => ?_) k1 k2 ?_ h
    ·rw [hv']
     simp only [Instr.next, getObj, setObj, Sem.run_bind, Sem.run, hh, Result.andThen, hsz, hp, if_true]
     simp [goInt, str]
    ·exact .inr ⟨_, [.bool true, .int .i64 pos, .int .i32 (Utf8.decode (str s) pos).1], rfl, rfl, by
      rw [Atv.cons]; refine ⟨_, _, rfl, .inr (.inl rfl), ?_⟩
      rw [Atv.cons]; refine ⟨_, _, rfl, .inr (.inl rfl), ?_⟩
      rw [Atv.cons]; exact ⟨_, _, rfl, .inr (.inl rfl), by rw [Atv.nil]⟩⟩
   ·rw [if_neg hp] at h
    refine Aw1.mk (s := fun o => Instr.next (a.eval x) true o.type) (v := .tuple #[.bool false]) (fun o ho => by simp only [execOp, ho]) (fun o => ?_) hs (Atb.refl _ _) ?_ h
    ·rw [hv']
     simp [Instr.next, getObj, Sem.run, hh, hsz, hp]
    ·exact .inr ⟨_, [.bool false], rfl, rfl, by
      rw [Atv.cons]; exact ⟨_, _, rfl, .inr (.inl rfl), by rw [Atv.nil]⟩⟩
  ·exact h.elim
 ·exact h.elim

theorem AG0 {t : TypeId} {sz b o : Nat} {v : Value} (h2 : ABY P t = some sz) (hv : v.cells.size = sz) (h1 : ∀ u ∈ v.cells.toList, u.oneCell' = true) (ht : w.there b o v.cells.toList.length) :
  (Instr.storeAt t (.pointer (some ⟨b, o, none⟩)) v).run P w = .ok () (w.setCells b o v.cells.toList) := by
 have := run_storeCells_cells (P := P) b o v.cells.toList 0 w (fun j hj => by simpa using (ht j hj).1) (fun j hj => by simpa using (ht j hj).2) h1
 simp only [Nat.add_zero] at this
 simp [Instr.storeAt, Instr.sureAddr, storeVar, Aus h2, hv, this]

theorem AU3 (hs : Sim ⟨β, H, F⟩ w) (he : Ato ⟨β, H, F⟩ w e a) {t : TypeId} {sz : Nat} (h2 : ABY P t = some sz) {x y : Operand} (h : sop P (.store sz (trO x) (trO y)) e H K) : Aw1 P β H F w a K (.store t x y) := by
 simp only [sop] at h
 obtain ⟨⟨hl, hw⟩, h⟩ := h
 have hc := (he.ev y).cells hl
 split at h
 ·rename_i id ver p hx
  split at h
  ·rename_i vr z hid
   obtain ⟨rfl, h⟩ := h
   split at h
   ·rename_i z' hz
    obtain ⟨g1, b, o, hb, hv⟩ := (he.rep hx).op
    obtain ⟨k1, k2, k3⟩ := hs.store hid hb hz hc
    have hsz : (a.eval y).cells.size = sz := by rw [← hw, ← hc.length]; simp
    intro op KK Q hop hnd hk
    refine OW.of_wp (by rw [hop]; exact hnd) ?_
    have hr := AG0 (P := P) h2 hsz hc.one k3
    unfold Oper.wp
    simp only [execOp, hop, hv, Sem.run_bind, hr, Result.andThen_ok, Sem.run_pure]
    exact hk _ _ _ _ _ _ h k1 k2 Rep.any
   ·exact h.elim
  ·exact h.elim
 ·exact h.elim

/-- A value that can be laid is what its cells say. -/
theorem AOa {c : Ctx} {w : World} {x : TV} {v : Value} (h : Rep c w x v) (hl : lays x = true) : v = mkV x v.cells.toList := by
 rcases h with (h | h | ⟨us, h3, h4⟩) | ⟨xs, vs, h, _⟩
 ·rw [h] at hl; simp [lays] at hl
 ·subst h
  simp only [lays] at hl
  rw [AyJ hl]; rfl
 ·have hc : v.cells.toList = us := by
   rw [h4]
   cases x with
   | agg cs => simp [mkV, Value.cells]
   | arr n k cs => simp [mkV, Value.cells]
   | tup cs => rw [AsV] at h3; exact h3.elim
   | _ =>
    have hlen := h3.length
    simp only [As7] at hlen
    obtain ⟨u, rfl⟩ := List.length_eq_one_iff.1 hlen
    simp [mkV, AyJ (h3.one u (by simp))]
  rw [hc]; exact h4
 ·rw [h] at hl; simp [lays] at hl
/-- A map of one's own is changed. -/
theorem Sim.setMap (hs : Sim ⟨β, H, F⟩ w) {id : Nat} {kk kk' : MK} {es es' : List (List UInt8 × TV)} {b : Nat} {ms ms' : Array MapEntry} {cl cl' : Nat} (hid : H[id]? = some (.mpo kk es)) (hb : β id 0 = some (b, 0)) (hh : w.heap[b]? = some (.map ms cl))
  (he : Ate ⟨β, H, F⟩ w kk' es' ms'.toList) (hc : cl' = ms'.size) (hbn : ms'.toList.map (·.born) = List.range ms'.size) :
  Sim ⟨β, H.set id (.mpo kk' es'), F⟩ { w with heap := w.heap.setIfInBounds b (.map ms' cl') } ∧ Atb ⟨β, H, F⟩ w ⟨β, H.set id (.mpo kk' es'), F⟩ { w with heap := w.heap.setIfInBounds b (.map ms' cl') } := by
 have hlt := (Array.getElem?_eq_some_iff.1 hh).1
 have hother : ∀ b', b' ≠ b → (w.heap.setIfInBounds b (.map ms' cl'))[b']? = w.heap[b']? := fun b' h => by rw [Array.getElem?_setIfInBounds_ne (Ne.symm h)]
 refine hs.turn hid rfl rfl (Nat.le_refl _) (fun i v _ => rfl) (fun b2 off e => .inl ⟨off, e⟩) rfl rfl rfl (by simp) (fun b2 _ => ?_) (fun b2 _ hne => hother b2 (fun e => hne 0 (e ▸ hb))) (fun hm => ⟨b, ms', cl', hb, by simp [hlt], Ate.mono hm he, hc, hbn⟩)
 by_cases e : b2 = b
 ·subst e
  have h1 : (w.heap.setIfInBounds b2 (.map ms' cl'))[b2]? = some (.map ms' cl') := by simp [hlt]
  simp only [World.shape?, h1, hh]
 ·simp [World.shape?, hother b2 e]
theorem AZ9 (hs : Sim ⟨β, H, F⟩ w) (he : Ato ⟨β, H, F⟩ w e a) {t kt et : TypeId} {kk : MK} (h1 : P.underlying t = some (.map kt et)) {r : Option Operand} (h : sop P (.mkm kk (r.map trO)) e H K) : Aw1 P β H F w a K (.makeMap t r) := by
 simp only [sop] at h
 obtain ⟨hr, h⟩ := h
 obtain ⟨k1, k2⟩ := hs.new (.mpo kk []) rfl (some (w.heap.size, 0)) (w' := w.alloc (.map #[] 0)) (fun b off e => by cases e; exact Nat.le_refl _) rfl rfl rfl (by simp) (fun b hb => AuD w _ hb) (fun hm => ⟨w.heap.size, #[], 0, Atg, Atq w _, by rw [Ate], rfl, rfl⟩)
 refine Aw1.mk (s := fun _ => Instr.makeMap t (r.map a.eval)) (v := .map (some w.heap.size)) (fun o ho => by simp only [execOp, ho]) (fun o => ?_) k1 k2 (Rep.of1 ?_ (by simp) (by simp)) h
 ·cases r with
  | none => simp [Instr.makeMap]
  | some x =>
   simp only [Option.map_some] at hr
   split at hr
   ·rename_i q n hx
    have hv := he.val hx
    simp [Instr.makeMap, run_underlying h1, hv, asInt, asIntOf]
   ·exact hr.elim
 ·rw [AsV]; exact ⟨AvU _ _ _ _ _ (Nat.le_refl _), _, _, Atg, rfl⟩
theorem ACD {ms : Array MapEntry} {j : Nat} {f : MapEntry → MapEntry} (hf : ∀ m, (f m).born = m.born) : (ms.modify j f).toList.map (·.born) = ms.toList.map (·.born) := by
 rw [Array.toList_modify]
 apply List.ext_getElem?
 intro i
 simp only [List.getElem?_map, List.getElem?_modify]
 cases ms.toList[i]? with
 | none => rfl
 | some m => by_cases hij : j = i <;> simp [hij, hf]
theorem AV8 (hs : Sim ⟨β, H, F⟩ w) (he : Ato ⟨β, H, F⟩ w e a) {t kt et : TypeId} {kk : MK} (h1 : P.underlying t = some (.map kt et)) (h2 : ANZ P kt = some kk) {m k x : Operand} (h : sop P (.mupd kk (trO m) (trO k) (trO x)) e H K) : Aw1 P β H F w a K (.mapUpdate t m k x) := by
 simp only [sop] at h
 split at h
 ·rename_i id kb hm hkb
  split at h
  ·rename_i kk' es hid
   obtain ⟨⟨rfl, hl⟩, h⟩ := h
   obtain ⟨hk1, hk2⟩ := AwS hkb (he.ev k)
   obtain ⟨_, b, o, hb, hv⟩ := (he.rep hm).mp
   obtain ⟨b', ms, cl, k1, k2, k3, k4, k5⟩ := hs.ob id _ hid
   have k1' : β id 0 = some (b', 0) := k1
   have hb' : β id 0 = some (b, o) := hb
   rw [hb'] at k1'
   obtain ⟨rfl, rfl⟩ : b = b' ∧ o = 0 := by simpa using k1'
   have hck := Awa (P := P) (w := w) h2 hk2 false
   have hfk := AwT (P := P) (w := w) h2 hk2 k3
   have hx := (he.ev x).cells hl
   have hxv := AOa (he.ev x) hl
   intro op KK Q hop hnd hk
   refine OW.of_wp (by rw [hop]; exact hnd) ?_
   unfold Oper.wp
   rcases ACF (k := kb) 0 k3 with ⟨g1, g2⟩ | ⟨j, v, y, m', g1, g2, g3, g4, g5, g6, g7⟩
   ·obtain ⟨s1, s2⟩ := hs.setMap (ms' := ms.push { key := AAq kk' kb, val := a.eval x, born := cl }) (cl' := cl + 1) (es' := AwB kb ((trO x).ev e) es) (kk' := kk') hid hb' k2 (by
     rw [Array.toList_push]; exact AHv hk2 rfl hx hxv k3 g2) (by rw [k4]; simp) (by rw [Array.toList_push, List.map_append, k5, k4]; simp [List.range_succ])
    have hr : (Instr.mapUpdate t (a.eval m) (a.eval k) (a.eval x)).run P w = .ok () { w with heap := w.heap.setIfInBounds b (.map (ms.push { key := AAq kk' kb, val := a.eval x, born := cl }) (cl + 1)) } := by
     rw [hv, hk1]
     simp only [Instr.mapUpdate, Sem.run_bind, run_underlying h1, Result.andThen_ok, AtY k2, hck, hfk, g1]
     rw [AwU _ k2]
    simp only [execOp, hop, Sem.run_bind, hr, Result.andThen_ok, Sem.run_pure]
    exact hk _ _ _ _ _ _ h s1 s2 Rep.any
   ·rw [Nat.zero_add] at g1
    obtain ⟨s1, s2⟩ := hs.setMap (ms' := ms.modify j fun e => { e with key := AAq kk' kb, val := a.eval x }) (cl' := cl) (es' := AwB kb ((trO x).ev e) es) (kk' := kk') hid hb' k2 (by
     rw [Array.toList_modify]; exact AJm hk2 hx hxv 0 j v k3 (by rw [g1, Nat.zero_add])) (by rw [k4]; simp) (by refine (ACD ?_).trans ?_ <;> first | (intro m; rfl) | (rw [k5]; simp))
    have hold : ((ms[j]?).map (·.key)).getD (AAq kk' kb) = AAq kk' kb := by
     rw [← Array.getElem?_toList, g3]; exact g5
    have hr : (Instr.mapUpdate t (a.eval m) (a.eval k) (a.eval x)).run P w = .ok () { w with heap := w.heap.setIfInBounds b (.map (ms.modify j fun e => { e with key := AAq kk' kb, val := a.eval x }) cl) } := by
     rw [hv, hk1]
     simp only [Instr.mapUpdate, Sem.run_bind, run_underlying h1, Result.andThen_ok, AtY k2, hck, hfk, g1, hold, Instr.keyThatStays, AGc, if_true, Sem.run_pure]
     rw [AwU _ k2]
    simp only [execOp, hop, Sem.run_bind, hr, Result.andThen_ok, Sem.run_pure]
    exact hk _ _ _ _ _ _ h s1 s2 Rep.any
  ·exact h.elim
 ·exact h.elim
theorem AV9 (hs : Sim ⟨β, H, F⟩ w) (he : Ato ⟨β, H, F⟩ w e a) {t kt : TypeId} {kk : MK} {z : Value} {zx : TV} (h1 : ANd P t = some (kt, kk, z, zx)) {m k : Operand} (h : sop P (.ment kk zx (trO m) (trO k)) e H K) : Aw1 P β H F w a K (.mapEntry t m k) := by
 obtain ⟨et, u1, u2, u3, u4, u5⟩ := AIr h1
 simp only [sop] at h
 split at h
 ·rename_i id kb hm hkb
  split at h
  ·rename_i kk' es hid
   obtain ⟨rfl, h⟩ := h
   obtain ⟨hk1, hk2⟩ := AwS hkb (he.ev k)
   obtain ⟨_, b, o, hb, hv⟩ := (he.rep hm).mp
   obtain ⟨b', ms, cl, k1, k2, k3, k4, k5⟩ := hs.ob id _ hid
   have k1' : β id 0 = some (b', 0) := k1
   have hb' : β id 0 = some (b, o) := hb
   rw [hb'] at k1'
   obtain ⟨rfl, rfl⟩ : b = b' ∧ o = 0 := by simpa using k1'
   have hck := Awa (P := P) (w := w) u2 hk2 false
   have hfk := AwT (P := P) (w := w) u2 hk2 k3
   obtain ⟨p1, p2⟩ := ALD (k := kb) 0 k3
   have hlen := Aza k3
   have mk : ∀ {x : TV} {v : Value} {w' : World} {H' : List Ob}, (Instr.mapEntry t (a.eval m) (a.eval k)).run P w = .ok (.tuple #[v, goInt (AEM kb es)]) w' → Sim ⟨β, H', F⟩ w' → Atb ⟨β, H, F⟩ w ⟨β, H', F⟩ w' → AsV ⟨β, H', F⟩ w' x v.cells.toList → v = mkV x v.cells.toList → K (.tup [x, .val (.int .i64 (AEM kb es))]) H' → Aw1 P β H F w a K (.mapEntry t m k) := by
    intro x v w' H' hr s1 s2 hx hxv hK
    refine Aw1.mk (s := fun _ => Instr.mapEntry t (a.eval m) (a.eval k)) (fun o ho => by simp only [execOp, ho]) (fun o => hr) s1 s2 ?_ hK
    refine .inr ⟨_, [v, goInt (AEM kb es)], rfl, rfl, ?_⟩
    rw [Atv.cons]; refine ⟨v, [goInt (AEM kb es)], rfl, .inr (.inr ⟨_, hx, hxv⟩), ?_⟩
    rw [Atv.cons]; refine ⟨goInt (AEM kb es), [], rfl, .inr (.inl rfl), ?_⟩
    rw [Atv.nil]
   rcases ACF (k := kb) 0 k3 with ⟨g1, g2⟩ | ⟨j, v, y, m', g1, g2, g3, g4, g5, g6, g7⟩
   ·rw [g2] at h
    obtain ⟨s1, s2⟩ := hs.setMap (ms' := ms.push { key := AAq kk' kb, val := z, born := cl }) (cl' := cl + 1) (es' := AwB kb zx es) (kk' := kk') hid hb' k2 (by
     rw [Array.toList_push]; exact AHv hk2 rfl (u4 _ _) u5 k3 g2) (by rw [k4]; simp) (by rw [Array.toList_push, List.map_append, k5, k4]; simp [List.range_succ])
    refine mk (v := z) (x := zx) ?_ s1 s2 (u4 _ _) u5 h
    have hcl : cl = AEM kb es := by rw [p2 g2, ← hlen, k4]; simp
    rw [hv, hk1]
    simp only [Instr.mapEntry, Sem.run_bind, run_underlying u1, Result.andThen_ok, AtY k2, hck, hfk, g1, u3]
    rw [AwU _ k2, ← hcl]; rfl
   ·rw [g2] at h
    rw [Nat.zero_add] at g1
    have hjp : j = AEM kb es := by have := p1 j v (by rw [g1]); omega
    obtain ⟨s1, s2⟩ := hs.setMap (ms' := ms.modify j fun e => { e with key := AAq kk' kb }) (cl' := cl) (es' := AwB kb y es) (kk' := kk') hid hb' k2 (by
     rw [Array.toList_modify]
     have := AJm hk2 g6 g7 0 j v k3 (by rw [g1, Nat.zero_add])
     have e1 : (ms.toList.modify j fun e => { e with key := AAq kk' kb, val := v }) = ms.toList.modify j fun e => { e with key := AAq kk' kb } := by
      apply List.ext_getElem?
      intro i
      simp only [List.getElem?_modify]
      by_cases hij : j = i
      ·subst hij; rw [g3]; simp [g4]
      ·simp [hij]
     rwa [e1] at this) (by rw [k4]; simp) (by refine (ACD ?_).trans ?_ <;> first | (intro m; rfl) | (rw [k5]; simp))
    have hold : ((ms[j]?).map (·.key)).getD (AAq kk' kb) = AAq kk' kb := by
     rw [← Array.getElem?_toList, g3]; exact g5
    have hborn : ((ms[j]?).map (fun x => (x.born : Int))).getD 0 = (AEM kb es : Int) := by
     have hjl : j < ms.size := by
      have := (List.getElem?_eq_some_iff.1 g3).1; simpa using this
     have := congrArg (·[j]?) k5
     simp only [List.getElem?_map, List.getElem?_range hjl] at this
     have h9 : (ms[j]?).map (fun x => (x.born : Int)) = some (j : Int) := by
      rw [← Array.getElem?_toList]
      cases hq : ms.toList[j]? with
      | none => rw [hq] at this; cases this
      | some q => rw [hq] at this; simp only [Option.map_some, Option.some.injEq] at this ⊢; omega
     rw [h9, hjp]; rfl
    refine mk (v := v) (x := y) ?_ s1 s2 (AsV.mono (s2.mono hs) g6) g7 h
    rw [hv, hk1]
    simp only [Instr.mapEntry, Sem.run_bind, run_underlying u1, Result.andThen_ok, AtY k2, hck, hfk, g1, hold, Instr.keyThatStays, AGc, if_true, Sem.run_pure]
    rw [AwU _ k2, Result.andThen_ok, hborn]
  ·exact h.elim
 ·exact h.elim
theorem AX5 (hs : Sim ⟨β, H, F⟩ w) (he : Ato ⟨β, H, F⟩ w e a) {t : TypeId} {m st x : Operand} (h : sop P (.mest (trO m) (trO st) (trO x)) e H K) : Aw1 P β H F w a K (.entryStore t m st x) := by
 simp only [sop] at h
 split at h
 ·rename_i id q j hm hst
  split at h
  ·rename_i kk es hid
   obtain ⟨⟨h0, hl⟩, h⟩ := h
   split at h
   ·rename_i kb y hj
    obtain ⟨_, b, o, hb, hv⟩ := (he.rep hm).mp
    obtain ⟨b', ms, cl, k1, k2, k3, k4, k5⟩ := hs.ob id _ hid
    have k1' : β id 0 = some (b', 0) := k1
    have hb' : β id 0 = some (b, o) := hb
    rw [hb'] at k1'
    obtain ⟨rfl, rfl⟩ : b = b' ∧ o = 0 := by simpa using k1'
    have hx := (he.ev x).cells hl
    have hxv := AOa (he.ev x) hl
    have hjl : j.toNat < ms.size := by
     have := (List.getElem?_eq_some_iff.1 hj).1
     rw [← Aza k3] at this; simpa using this
    obtain ⟨s1, s2⟩ := hs.setMap (ms' := ms.modify j.toNat fun e => { e with val := a.eval x }) (cl' := cl) (es' := es.set j.toNat (kb, (trO x).ev e)) (kk' := kk) hid hb' k2 (by
     rw [Array.toList_modify]; exact APO hx hxv j.toNat k3 hj) (by rw [k4]; simp) (by refine (ACD ?_).trans ?_ <;> first | (intro m; rfl) | (rw [k5]; simp))
    have hfi : ms.findIdx? (fun e => (e.born : Int) == j) = some j.toNat := by
     have hb2 : ∀ i (hi : i < ms.size), ms[i].born = i := by
      intro i hi
      have := congrArg (·[i]?) k5
      simp only [List.getElem?_map, List.getElem?_range hi] at this
      rw [Array.getElem?_toList, Array.getElem?_eq_getElem hi] at this
      simpa using this
     rw [Array.findIdx?_eq_some_iff_getElem]
     refine ⟨hjl, ?_, fun i hi => ?_⟩
     ·rw [hb2 _ hjl]; simp; omega
     ·rw [hb2 i (by omega)]; simp; omega
    intro op KK Q hop hnd hk
    refine OW.of_wp (by rw [hop]; exact hnd) ?_
    unfold Oper.wp
    have hr : (Instr.entryStore t (a.eval m) (a.eval st) (a.eval x)).run P w = .ok () { w with heap := w.heap.setIfInBounds b (.map (ms.modify j.toNat fun e => { e with val := a.eval x }) cl) } := by
     rw [hv, he.val hst]
     simp only [Instr.entryStore, Sem.run_bind, Result.andThen_ok, AtY k2, asInt, asIntOf, Sem.run_pure, hfi]
     rw [AwU _ k2]
    simp only [execOp, hop, Sem.run_bind, hr, Result.andThen_ok, Sem.run_pure]
    exact hk _ _ _ _ _ _ h s1 s2 Rep.any
   ·exact h.elim
  ·exact h.elim
 ·exact h.elim
theorem AKb (hs : Sim ⟨β, H, F⟩ w) {x : TV} {v : Value} (hx : Rep ⟨β, H, F⟩ w x v) {t tx ty et : TypeId} {k : Nat} {i : TypeInfo} {z : Value} (h0 : AtH P t = some (k, et)) (h1 : P.info? et = some i) (h2 : i.zero = some z) (h3 : z.cells.size = k)
  {y : Value} {ys : List TV} {us : List Value} (hy : AsX (Ctx.bare ⟨β, H, F⟩) w ys us) (hyk : ∀ y ∈ ys, As7 y = k) (hsrc : Src P k tx y ys.length us w) (h : AK3 k i.bytes et x ys H K) :
  ∃ v' w' β' H' x', (Builtin.append_ #[t, tx] ty #[v, y]).run P w = .ok v' w' ∧ Sim ⟨β', H', F⟩ w' ∧ Atb ⟨β, H, F⟩ w ⟨β', H', F⟩ w' ∧ Rep ⟨β', H', F⟩ w' x' v' ∧ K x' H' := by
 obtain ⟨g1, g2⟩ := Atx h0
 have hik : i.size = k := by unfold ABY at g2; rw [h1] at g2; simpa using g2
 unfold AK3 at h
 split at h
 ·obtain ⟨⟨b1, b2⟩, h⟩ := h
  rw [Rep.val] at hx; subst hx
  obtain ⟨k1, k2⟩ := hs.newNone (x := .arr 0 k []) (by rw [AsV]; exact ⟨rfl, by simp, by rw [AsX]⟩)
  have hm := AwX.toBare (β := β) (F := F) (w := w) [] (upd β H.length 0 none)
  obtain ⟨v', w', β', r1, r2, r3, r4, _⟩ := k1.append (P := P) (id := H.length) (ver := 0) (off := 0) (n := 0) (N := 0) (k := k) (cs := []) (by simp) (by simp) (v := .slice none 0 0) (cp := 0)
   (by rw [AsV]; exact ⟨AvU _ _ _ _ _ (Nat.le_refl _), .inl ⟨rfl, none, rfl, rfl, fun _ h => by cases h⟩⟩) g1 h1 h2 (by rw [h3, hik]) hik (AsX.mono hm hy) hyk hsrc (ty := ty) (by simpa using b1) (by simpa using b2)
  simp only [Nat.zero_add, List.drop_nil, List.take_nil, List.nil_append] at r2 r3 r4
  have hset : (H ++ [Ob.obj 0 (.arr 0 k [])]).set H.length (.obj 1 (.arr ys.length k ys)) = H ++ [.obj 1 (.arr ys.length k ys)] := by simp
  rw [hset] at r2 r3 r4
  exact ⟨v', w', β', _, _, r1, r2, k2.trans r3, Rep.of1 r4 (by simp) (by simp), h⟩
 ·rename_i k' id ver off n cp
  obtain ⟨rfl, h⟩ := h
  split at h
  ·rename_i ob hob
   obtain ⟨⟨b1, b2, b3⟩, h⟩ := h
   unfold AQH at hob
   split at hob
   ·rename_i vr N k'' cs hid
    split at hob
    ·rename_i hc
     obtain ⟨rfl, rfl⟩ := hc
     cases hob
     rw [hid] at b1
     obtain ⟨v', w', β', r1, r2, r3, r4, _⟩ := hs.append (P := P) (ty := ty) hid b1 hx.os g1 h1 h2 (by rw [h3, hik]) hik hy hyk hsrc b2 b3
     exact ⟨v', w', β', _, _, r1, r2, r3, Rep.of1 r4 (by simp) (by simp), h⟩
    ·cases hob
   ·rename_i vr t' l hid
    split at hob
    ·rename_i hc
     obtain ⟨e1, e2, e3, e4, hby⟩ := hc
     subst e1; subst e2; subst e3; subst e4
     cases hob
     rw [hid] at b1
     have b1' : 0 + n ≤ l.length := b1
     have hlt : id < H.length := (List.getElem?_eq_some_iff.1 hid).1
     have hob := hs.ob id _ hid
     have hik1 : i.size = 1 := hik
     have h31 : z.cells.size = 1 := h3
     obtain ⟨s1, s2⟩ := hs.view (o' := .obj vr (.arr l.length 1 (l.map by8))) hid rfl rfl rfl (fun hm => by
      rcases hob with ⟨q1, q2⟩ | ⟨b, post, fr, q1, q2, q3⟩
      ·exact .inl ⟨q1, by rw [q2, AsV]; exact ⟨rfl, by simp, by rw [List.map_nil, AsX]⟩⟩
      ·refine .inr ⟨b, 0, [], _, post, t', fr, q1, q2, q3, rfl, ?_⟩
       rw [AsV]; exact ⟨by simp, by simp [As7], Av3 l⟩)
     have hid1 : (H.set id (Ob.obj vr (.arr l.length 1 (l.map by8))))[id]? = some (.obj vr (.arr l.length 1 (l.map by8))) := by simp [hlt]
     obtain ⟨v', w', β', r1, r2, r3, r4, r5⟩ := s1.append (P := P) (ty := ty) hid1 (by rw [List.length_map]; exact b1') (Rep.mono (s2.mono hs) hx).os g1 h1 h2 (by rw [h31, hik1]) hik1 hy hyk hsrc b2 b3
     rw [List.set_set] at r2 r3 r4
     have hlt2 : id < (H.set id (Ob.obj (vr + 1) (.arr (n + ys.length) 1 (((l.map by8).drop 0).take n ++ ys)))).length := by simpa using hlt
     have hid2 : (H.set id (Ob.obj (vr + 1) (.arr (n + ys.length) 1 (((l.map by8).drop 0).take n ++ ys))))[id]? = some (.obj (vr + 1) (.arr (n + ys.length) 1 (((l.map by8).drop 0).take n ++ ys))) := by simp [hlt]
     have hisby : ∀ y ∈ ((l.map by8).drop 0).take n ++ ys, ANB y := by
      intro y hy'
      rcases List.mem_append.1 hy' with hy' | hy'
      ·rw [List.drop_zero] at hy'
       obtain ⟨b, _, rfl⟩ := List.mem_map.1 (List.mem_of_mem_take hy'); exact AMm b
      ·exact AGK (List.all_eq_true.1 hby y hy')
     have hunby : (((l.map by8).drop 0).take n ++ ys).map AGG = l.take n ++ ys.map AGG := by
      rw [List.drop_zero, List.map_append, ← List.map_take, ADF]
     have hob2 := r2.ob id _ hid2
     obtain ⟨z1, z2⟩ := r2.view (o' := .bld (vr + 1) t' (l.take n ++ ys.map AGG)) hid2 rfl rfl rfl (fun hm => by
      rcases hob2 with ⟨q1, q2⟩ | ⟨b, off, pre, vs, post, t1, fr, q1, q2, q3, q4, q5⟩
      ·refine .inl ⟨q1, ?_⟩
       rw [AsV] at q2
       have hb := AxZ hisby q2.2.2
       rw [hunby] at hb
       simpa using hb.symm
      ·rw [AsV] at q5
       have hb := AxZ hisby q5.2.2
       rw [hunby] at hb
       have hsh : w'.shape? b = some (t1, (pre ++ vs ++ post).length) := by simp [World.shape?, q2]
       have hoff : off = 0 ∧ t1 = t' := by
        rcases r5 b off q1 with ⟨p1, m, p2⟩ | p1
        ·rw [hsh] at p2; cases p2; exact ⟨p1, rfl⟩
        ·have p2 := p1 rfl
         rcases hob with ⟨o1, _⟩ | ⟨b', post', fr', o1, o2, o3⟩
         ·have o1' : β id vr = none := o1
          rw [o1'] at p2; cases p2
         ·have o1' : β id vr = some (b', 0) := o1
          rw [o1'] at p2; cases p2
          have hbl : b < w.heap.size := (Array.getElem?_eq_some_iff.1 o2).1
          have := r3.shape b hbl
          rw [hsh] at this
          simp only [World.shape?, o2, Option.some.injEq, Prod.mk.injEq] at this
          exact ⟨rfl, this.1⟩
       obtain ⟨rfl, rfl⟩ := hoff
       have hp : pre = [] := List.length_eq_zero_iff.1 q4
       subst hp
       rw [hb] at q2 q3
       exact .inr ⟨b, post, fr, q1, q2, q3⟩)
     rw [List.set_set] at z1 z2
     have hr4 := Rep.mono (z2.mono r2) (Rep.of1 r4 (by simp) (by simp))
     exact ⟨v', w', β', _, _, r1, z1, (s2.trans r3).trans z2, hr4, h⟩
    ·cases hob
   ·cases hob
  ·exact h.elim
 ·exact h.elim

theorem AZ2 (hs : Sim ⟨β, H, F⟩ w) (he : Ato ⟨β, H, F⟩ w e a) {t tx et : TypeId} {k : Nat} {i : TypeInfo} {z : Value} (h0 : AtH P t = some (k, et)) (h1 : P.info? et = some i) (h2 : i.zero = some z) (h3 : z.cells.size = k) (h4 : (AtH P tx).isSome = true)
  {x y : Operand} (h : sop P (.app k i.bytes et (trO x) (trO y)) e H K) : Aw1 P β H F w a K (.call { callee := .builtin .append, args := [x, y].toArray, argTypes := [t, tx].toArray }) := by
 obtain ⟨⟨kx, etx⟩, h4⟩ := Option.isSome_iff_exists.1 h4
 have g4 := (Atx h4).1
 simp only [sop] at h
 split at h
 ·rename_i ys hys
  obtain ⟨hyk, us, hus, hrd⟩ := AAE hs (he.ev y) hys
  have hsrc := hrd.src hus.one g4
  intro o KK Q ho hnd hk
  refine OW.of_wp (by rw [ho]; exact hnd) ?_
  obtain ⟨v', w', β', H', x', r1, r2, r3, r4, r5⟩ := AKb (ty := o.type) hs (he.ev x) h0 h1 h2 h3 hus hyk hsrc h
  unfold Oper.wp
  simp only [execOp, ho, resolve, invoke, builtin, Sem.run_bind, Sem.run_pure, Result.andThen_ok, List.map_toArray, List.map_cons, List.map_nil, r1]
  exact hk _ _ _ _ _ _ r5 r2 r3 r4
 ·exact h.elim

theorem AXZ (hs : Sim ⟨β, H, F⟩ w) (he : Ato ⟨β, H, F⟩ w e a) {t : TypeId} (h1 : ANA P t = true) {x : Operand} (h : sop P (.rngM (trO x)) e H K) : Aw1 P β H F w a K (.range t x) := by
 obtain ⟨kt, et, h2⟩ : ∃ kt et, P.underlying t = some (.map kt et) := by
  unfold ANA at h1
  split at h1
  ·rename_i kt et hu; exact ⟨kt, et, hu⟩
  ·cases h1
 simp only [sop] at h
 split at h
 ·rename_i id hx
  split at h
  ·rename_i kk zs cl hm
   obtain ⟨b, ms, q1, q2, q3, q4, q5, o, q6, q7, q8⟩ := ALX hs hm
   obtain ⟨g1, b', o', hb, hv⟩ := (he.rep hx).mp
   rw [q1] at hb
   obtain ⟨rfl, rfl⟩ : b = b' ∧ 0 = o' := by simpa using hb
   obtain ⟨k1, k2⟩ := hs.new (.mit id [] cl) rfl (some (w.heap.size, 0)) (w' := w.alloc (.mapIter (some b) cl #[] cl)) (fun b off e => by cases e; exact Nat.le_refl _) rfl rfl rfl (by simp) (fun b hb => AuD w _ hb)
    (fun hm' => ⟨w.heap.size, b, Atg, ⟨(hm'.has id 0 g1).1, (hm'.has id 0 g1).2.trans q1⟩, Atq w _⟩)
   refine Aw1.mk (s := fun _ => Instr.range t (a.eval x)) (v := .pointer (some ⟨w.heap.size, 0, none⟩)) (fun o ho => by simp only [execOp, ho]) (fun o => ?_) k1 k2 (Rep.mk_op (AvU _ _ _ _ _ (Nat.le_refl _)) Atg (by simp [Avm])) h
   rw [hv]
   simp only [Instr.range, Sem.run_bind, run_underlying h2, Result.andThen_ok, AtY q2]
   simp [newObj, Sem.run]
  ·exact h.elim
 ·exact h.elim
theorem AXg (hs : Sim ⟨β, H, F⟩ w) (he : Ato ⟨β, H, F⟩ w e a) {x : Operand} (h : sop P (.nxtM (trO x)) e H K) : Aw1 P β H F w a K (.next x false) := by
 simp only [sop] at h
 split at h
 ·rename_i id hx
  split at h
  ·rename_i m sn cl hid
   split at h
   ·rename_i kk zs cl' hm
    obtain ⟨⟨rfl, hold⟩, hA, hB⟩ := h
    obtain ⟨r, b, k1, ⟨k2, k3⟩, k4⟩ := hs.ob id _ hid
    obtain ⟨b', ms, q1, q2, q3, q4, q5, _⟩ := ALX hs hm
    rw [k3] at q1
    obtain rfl : b = b' := by simpa using q1
    obtain ⟨_, b2, o, hb2, hv⟩ := (he.rep hx).op
    have hb2' : β id 0 = some (b2, o) := hb2
    have k1' : β id 0 = some (r, 0) := k1
    rw [k1'] at hb2'
    obtain ⟨rfl, rfl⟩ : r = b2 ∧ 0 = o := by simpa using hb2'
    have hv' : a.eval x = .pointer (some ⟨r, 0, none⟩) := hv
    have hcon : ∀ s : Nat, sn.toArray.contains s = decide (s ∈ sn) := fun s => by simp
    intro op KK Q hop hnd hk
    refine OW.of_wp (by rw [hop]; exact hnd) ?_
    unfold Oper.wp
    rcases run_next_at (P := P) w op.type r b cl' cl' sn.toArray ms cl' k4 q2 (fun e he' => by
     obtain ⟨z, hz, g, _⟩ := AHi q3 q4 e he'
     rw [g]; exact hold z hz) (Nat.le_refl _) with ⟨g1, g2⟩ | ⟨en, g1, w1, g2, g3⟩
    ·simp only [execOp, hop, Sem.run_bind, hv', g2, Result.andThen_ok, Sem.run_pure]
     refine hk _ _ _ _ _ _ (hB fun z hz => ?_) hs (Atb.refl _ _) (.inr ⟨_, [.bool false], rfl, rfl, by rw [Atv.cons]; exact ⟨_, _, rfl, .inr (.inl rfl), by rw [Atv.nil]⟩⟩)
     obtain ⟨en, e1, e2, _⟩ := AGX q3 q4 z hz
     have hl : leftOf ms sn.toArray = #[] := Array.eq_empty_of_size_eq_zero g1
     unfold leftOf at hl
     rw [Array.filter_eq_empty_iff] at hl
     have := hl en (by simpa using e1)
     rw [hcon, e2] at this
     simpa using this
    ·have hmem : en ∈ ms.toList ∧ ¬ en.born ∈ sn := by
      unfold leftOf at g1
      simp only [Array.toList_filter, List.mem_filter, hcon] at g1
      exact ⟨g1.1, by simpa using g1.2⟩
     obtain ⟨z, hz, e1, ⟨e2, e2'⟩, e3, e4⟩ := AHi q3 q4 en hmem.1
     have hlt := (Array.getElem?_eq_some_iff.1 k4).1
     have hw1 : w1.heap = w.heap ∧ w1.os = w.os ∧ w1.tape = w.tape ∧ w1.output = w.output := by rcases g2 with rfl | rfl <;> exact ⟨rfl, rfl, rfl, rfl⟩
     obtain ⟨s1, s2⟩ := hs.turn (β' := β) (o' := .mit m (sn ++ [z.1]) cl') (w' := ChangeMaps.setBlock w1 r (.mapIter (some b) cl' (sn.toArray.push en.born) cl')) hid rfl rfl (Nat.le_refl _) (fun _ _ _ => rfl) (fun b1 off e => .inl ⟨off, e⟩) hw1.2.1 hw1.2.2.1 hw1.2.2.2 (by simp [ChangeMaps.setBlock, hw1.1])
      (fun b1 hb1 => by
       by_cases e : b1 = r
       ·subst e
        have h1 : (ChangeMaps.setBlock w1 b1 (.mapIter (some b) cl' (sn.toArray.push en.born) cl')).heap[b1]? = some (.mapIter (some b) cl' (sn.toArray.push en.born) cl') := by simp [ChangeMaps.setBlock, hw1.1, hlt]
        simp only [World.shape?, h1, k4]
       ·simp [World.shape?, ChangeMaps.setBlock, hw1.1, Array.getElem?_setIfInBounds_ne (Ne.symm e)])
      (fun b1 hb1 hne => by
       have e : b1 ≠ r := fun e => hne 0 (e ▸ k1')
       simp [ChangeMaps.setBlock, hw1.1, Array.getElem?_setIfInBounds_ne (Ne.symm e)])
      (fun hm' => ⟨r, b, k1', ⟨(hm'.has m 0 k2).1, (hm'.has m 0 k2).2.trans k3⟩, by
       have : (sn ++ [z.1]).toArray = sn.toArray.push en.born := by rw [e1]; simp
       rw [this]; simp [ChangeMaps.setBlock, hw1.1, hlt]⟩)
     simp only [execOp, hop, Sem.run_bind, hv', g3, Result.andThen_ok, Sem.run_pure]
     refine hk _ _ _ _ _ _ (hA z hz (by rw [← e1]; exact hmem.2)) s1 s2 (.inr ⟨_, [.bool true, en.key, en.val], rfl, rfl, ?_⟩)
     rw [Atv.cons]; refine ⟨_, _, rfl, .inr (.inl rfl), ?_⟩
     rw [Atv.cons]; refine ⟨_, _, rfl, by rw [e2]; exact APa e2', ?_⟩
     rw [Atv.cons]; exact ⟨_, _, rfl, .inr (.inr ⟨_, AsV.mono (s2.mono hs) e3, e4⟩), by rw [Atv.nil]⟩
   ·exact h.elim
  ·exact h.elim
 ·exact h.elim
theorem AIE {c : Ctx} {w : World} {kk : MK} : ∀ {es : List (List UInt8 × TV)} {ms : List MapEntry} (j : Nat), Ate c w kk es ms → Ate c w kk (es.eraseIdx j) (ms.eraseIdx j)
 | [], ms, j, h => by
  have : ms = [] := h
  subst this; exact h
 | (k, x) :: es, ms, 0, h => by
  obtain ⟨m, r, rfl, h1, h2, h3⟩ := h
  exact h3
 | (k, x) :: es, ms, j + 1, h => by
  obtain ⟨m, r, rfl, h1, h2, h3⟩ := h
  exact ⟨m, r.eraseIdx j, rfl, h1, h2, AIE j h3⟩
theorem AWm (hs : Sim ⟨β, H, F⟩ w) (he : Ato ⟨β, H, F⟩ w e a) {t kt et : TypeId} {ts : List TypeId} {kk : MK} (h1 : P.underlying t = some (.map kt et)) (h2 : ANZ P kt = some kk) {m k : Operand} (h : sop P (.delM kk (trO m) (trO k)) e H K) : Aw1 P β H F w a K (.call { callee := .builtin .delete, args := [m, k].toArray, argTypes := (t :: ts).toArray }) := by
 simp only [sop] at h
 split at h
 ·rename_i id kb hm hkb
  split at h
  ·rename_i kk' zs cl hst
   obtain ⟨rfl, h⟩ := h
   obtain ⟨hk1, hk2⟩ := AwS hkb (he.ev k)
   obtain ⟨b, ms, q1, q2, q3, q4, q5, o, q6, q7, q8⟩ := ALX hs hst
   obtain ⟨g1, b', o', hb, hv⟩ := (he.rep hm).mp
   rw [q1] at hb
   obtain ⟨rfl, rfl⟩ : b = b' ∧ 0 = o' := by simpa using hb
   have hck := Awa (P := P) (w := w) h2 hk2 ms.isEmpty
   have hfk := AwT (P := P) (w := w) h2 hk2 q3
   obtain ⟨p1, p2⟩ := ALD (k := kb) 0 q3
   have hlt := (Array.getElem?_eq_some_iff.1 q2).1
   have fin : ∀ ms' : Array MapEntry, ms'.toList = ms.toList.eraseIdx (AEM kb (zs.map (·.2))) → Sim ⟨β, H.set id (.mpd kk' (zs.eraseIdx (AEM kb (zs.map (·.2)))) cl), F⟩ { w with heap := w.heap.setIfInBounds b (.map ms' cl) } ∧ Atb ⟨β, H, F⟩ w ⟨β, H.set id (.mpd kk' (zs.eraseIdx (AEM kb (zs.map (·.2)))) cl), F⟩ { w with heap := w.heap.setIfInBounds b (.map ms' cl) } := by
    intro ms' hms
    have hother : ∀ b', b' ≠ b → (w.heap.setIfInBounds b (.map ms' cl))[b']? = w.heap[b']? := fun b' h => by rw [Array.getElem?_setIfInBounds_ne (Ne.symm h)]
    have q1' : β id o.ver = some (b, 0) := by rw [q8]; exact q1
    refine hs.turn (β' := β) q6 q7 rfl (by rw [q8]; exact Nat.le_refl _) (fun i v _ => rfl) (fun b2 off e => .inl ⟨off, by rw [q8]; exact e⟩) rfl rfl rfl (by simp) (fun b2 _ => ?_) (fun b2 _ hne => hother b2 (fun e => hne 0 (e ▸ q1')))
     (fun hm => ⟨b, ms', q1, by simp [hlt], ?_, ?_, ?_⟩)
    ·by_cases e : b2 = b
     ·subst e
      have h1 : (w.heap.setIfInBounds b2 (.map ms' cl))[b2]? = some (.map ms' cl) := by simp [hlt]
      simp only [World.shape?, h1, q2]
     ·simp [World.shape?, hother b2 e]
    ·rw [hms, ChangeMaps.map_eraseIdx]
     exact Ate.mono hm (AIE _ q3)
    ·rw [hms, ChangeMaps.map_eraseIdx, ChangeMaps.map_eraseIdx, q4]
    ·rw [ChangeMaps.map_eraseIdx]
     exact q5.sublist (List.eraseIdx_sublist _ _)
   intro op KK Q hop hnd hk
   refine OW.of_wp (by rw [hop]; exact hnd) ?_
   unfold Oper.wp
   rcases ACF (k := kb) 0 q3 with ⟨l1, l2⟩ | ⟨j, v, y, m', l1, l2, l3, l4, l5, l6, l7⟩
   ·have hpos := p2 l2
    obtain ⟨s1, s2⟩ := fin ms (by rw [hpos, List.eraseIdx_of_length_le (by have := Aza q3; omega)])
    have hr : (Builtin.delete_ (t :: ts).toArray op.type #[a.eval m, a.eval k]).run P w = .ok (.tuple #[]) { w with heap := w.heap.setIfInBounds b (.map ms cl) } := by
     rw [hv, hk1]
     simp only [Builtin.delete_, List.getElem?_toArray, List.getElem?_cons_zero, List.getElem?_cons_succ, Sem.run_bind, run_underlying h1, Result.andThen_ok, AtY q2, hck, hfk, l1]
     simp [AwU _ q2, run_underlying h1, AtY q2, hck, hfk, l1]
    simp only [execOp, hop, resolve, invoke, builtin, Sem.run_bind, Sem.run_pure, Result.andThen_ok, List.map_toArray, List.map_cons, List.map_nil, hr]
    exact hk _ _ _ _ _ _ h s1 s2 Rep.any
   ·have hjp : j = AEM kb (zs.map (·.2)) := by have := p1 j v (by rw [l1, Nat.zero_add]); omega
    obtain ⟨s1, s2⟩ := fin (ms.eraseIdxIfInBounds j) (by rw [← hjp]; simp)
    have hr : (Builtin.delete_ (t :: ts).toArray op.type #[a.eval m, a.eval k]).run P w = .ok (.tuple #[]) { w with heap := w.heap.setIfInBounds b (.map (ms.eraseIdxIfInBounds j) cl) } := by
     rw [hv, hk1]
     simp [Builtin.delete_, run_underlying h1, AtY q2, hck, hfk, l1, AwU _ q2]
    simp only [execOp, hop, resolve, invoke, builtin, Sem.run_bind, Sem.run_pure, Result.andThen_ok, List.map_toArray, List.map_cons, List.map_nil, hr]
    exact hk _ _ _ _ _ _ h s1 s2 Rep.any
  ·exact h.elim
 ·exact h.elim
theorem A0L (hs : Sim ⟨β, H, F⟩ w) (he : Ato ⟨β, H, F⟩ w e a) {op : BinOp} {t yt et : TypeId} (ho : AKU op = true) (h1 : P.underlying t = some (.slice et)) {x y : Operand} (hy : APo y = true) (h : sop P (.eqS (trO x) (AwP op)) e H K) : Aw1 P β H F w a K (.binOp op t x y yt) := by
 obtain rfl : y = .const (.slice none 0 0) := by
  unfold APo at hy; split at hy
  ·rfl
  ·cases hy
 have run : ∀ (ad : Option Addr) (n cap : Nat), a.eval x = .slice ad n cap → K (.val (.bool (xor (AwP op) ad.isNone))) H → Aw1 P β H F w a K (.binOp op t x (.const (.slice none 0 0)) yt) := by
  intro ad n cap hv hk
  refine As3.does hs fun ty => As3.mk (s := do eqGuard op t x (.const (.slice none 0 0)) (a.eval x) (a.eval (.const (.slice none 0 0))); binOp op t (a.eval x) (a.eval (.const (.slice none 0 0)))) (fun o ho _ => by simp only [execOp, ho]) ?_ Rep.of_val hk
  have e0 : a.eval (.const (.slice none 0 0)) = .slice none 0 0 := rfl
  rw [e0, hv, Sem.run_bind, Ax4 (by rfl), Result.andThen_ok]
  have hd : ∀ d, (Op.equalIn (d + 1) t (.slice ad n cap) (.slice none 0 0)).run P w = .ok ad.isNone w := by
   intro d
   cases ad <;> simp [Op.equalIn, run_underlying h1]
  have heq : (Op.equal t (.slice ad n cap) (.slice none 0 0)).run P w = .ok ad.isNone w := hd 9999
  cases op <;> simp [AKU] at ho
  ·show (do pure (.bool (← Op.equal t _ _)) : Sem Value).run P w = _
   simp [heq, AwP]
  ·show (do pure (.bool (!(← Op.equal t _ _))) : Sem Value).run P w = _
   simp [heq, AwP]
 simp only [sop] at h
 split at h
 ·rename_i ad n cap hx; exact run _ _ _ (he.val hx) h
 ·rename_i k' cs hx
  obtain ⟨_, ⟨rfl, ad, cap, hv, _⟩ | ⟨b, off, cap, vs, hv, _⟩⟩ := (he.rep hx).sl
  ·refine run _ _ _ hv ?_
   obtain ⟨h, _⟩ := h
   obtain ⟨h2, h3⟩ := h rfl
   cases xor (AwP op) ad.isNone
   ·exact h3
   ·exact h2
  ·refine run _ _ _ hv ?_
   obtain ⟨h, h'⟩ := h
   by_cases hc : cs = []
   ·obtain ⟨h2, h3⟩ := h hc
    cases xor (AwP op) (some (⟨b, off, none⟩ : Addr)).isNone
    ·exact h3
    ·exact h2
   ·have := h' hc
    simpa using this
 ·rename_i k' id ver p off n cp hx
  have hr := (he.rep hx).os
  rw [AsV] at hr
  rcases hr.2 with ⟨rfl, ad, hv, _⟩ | ⟨b, o, cap, t', m, hb, hv, _⟩
  ·refine run ad 0 0 (by simpa using hv) ?_
   obtain ⟨h, _⟩ := h
   obtain ⟨h2, h3⟩ := h rfl
   cases xor (AwP op) ad.isNone
   ·exact h3
   ·exact h2
  ·refine run _ _ _ (List.cons.inj hv).1 ?_
   obtain ⟨h, h'⟩ := h
   by_cases hc : n = 0
   ·obtain ⟨h2, h3⟩ := h hc
    simp only [Option.isNone_some, Bool.xor_false]
    cases AwP op
    ·exact h3
    ·exact h2
   ·have := h' hc
    simpa using this
 ·exact h.elim
theorem AXI (hs : Sim ⟨β, H, F⟩ w) (he : Ato ⟨β, H, F⟩ w e a) {t tx et : TypeId} {k : Nat} {i : TypeInfo} {z : Value} {zx : TV} (h0 : AtH P t = some (k, et)) (h1 : P.info? et = some i) (h2 : i.zero = some z) (h3 : z.cells.size = k ∧ k ≠ 0) (h4 : zT P 400 et z.cells.toList = some zx) (h5 : ANR P tx = true)
  {x y : Operand} (h : sop P (.appZ k i.bytes zx (trO x) (trO y)) e H K) : Aw1 P β H F w a K (.call { callee := .builtin .append, args := [x, y].toArray, argTypes := [t, tx].toArray }) := by
 obtain ⟨g1, g2⟩ := Atx h0
 obtain ⟨kn, g3⟩ : ∃ kn, P.underlying tx = some (.int kn) := by
  unfold ANR at h5
  split at h5
  ·rename_i q hq; exact ⟨q, hq⟩
  ·cases h5
 obtain ⟨hz, hzp⟩ := Axl (c := Ctx.bare ⟨β, H, F⟩) (w := w) h4
 have hik : i.size = k := by unfold ABY at g2; rw [h1] at g2; simpa using g2
 simp only [sop] at h
 split at h
 ·rename_i j hx hy
  obtain ⟨⟨b1, b2, b3⟩, h⟩ := h
  obtain ⟨n, rfl⟩ : ∃ n : Nat, j = n := ⟨j.toNat, by omega⟩
  rw [Int.toNat_natCast] at h
  have hvx : a.eval x = .slice none 0 0 := he.val hx
  have hvy : a.eval y = .int .i64 (n : Int) := he.val hy
  have fin : ∀ v' w' β', (∀ ty, (Builtin.append_ #[t, tx] ty #[.slice none 0 0, .int .i64 (n : Int)]).run P w = .ok v' w') → Sim ⟨β', H ++ [.obj 0 (.arr n k (List.replicate n zx))], F⟩ w' → Atb ⟨β, H, F⟩ w ⟨β', H ++ [.obj 0 (.arr n k (List.replicate n zx))], F⟩ w' →
    Rep ⟨β', H ++ [.obj 0 (.arr n k (List.replicate n zx))], F⟩ w' (.os k H.length 0 [] 0 n n) v' → Aw1 P β H F w a K (.call { callee := .builtin .append, args := [x, y].toArray, argTypes := [t, tx].toArray }) := by
   intro v' w' β' r1 r2 r3 r4 o KK Q ho hnd hk
   refine OW.of_wp (by rw [ho]; exact hnd) ?_
   unfold Oper.wp
   simp only [execOp, ho, resolve, invoke, builtin, Sem.run_bind, Sem.run_pure, Result.andThen_ok, List.map_toArray, List.map_cons, List.map_nil, hvx, hvy, r1]
   exact hk _ _ _ _ _ _ h r2 r3 r4
  by_cases hn : n = 0
  ·subst hn
   obtain ⟨k1, k2⟩ := hs.newNone (x := .arr 0 k []) (by rw [AsV]; exact ⟨rfl, by simp, by rw [AsX]⟩)
   refine fin (.slice none 0 0) w _ (fun ty => ?_) k1 k2 (Rep.of1 ?_ (by simp) (by simp))
   ·have hw : IntKind.i64.wrap ((0 : Nat) : Int) = 0 := by rw [IntKind.wrap_i64]; omega
    simp [Builtin.append_, run_underlying g1, run_underlying g3, sizeOf, typeInfo, h1, asInt, asIntOf]
    have hw' : IntKind.i64.wrap (0 : Int) = 0 := hw
    simp [hw']
   ·rw [AsV]; exact ⟨AvU _ _ _ _ _ (Nat.le_refl _), .inl ⟨rfl, none, rfl, rfl, fun _ h => by cases h⟩⟩
  ·have hm := Ay8 hz (by rw [h3.1]; exact h3.2) n
   have hzw : As7 zx = k := by rw [← hz.length]; simpa using h3.1
   have hb2 : n * i.bytes ≤ 140737488355328 := by
    have : ((n * i.bytes : Nat) : Int) ≤ 140737488355328 := by rw [Int.natCast_mul, Int.mul_comm]; exact b2
    omega
   have hr := fun ty => Lib.run_append_grow_zeros (P := P) w t tx ty et i z .i64 kn g1 g3 h1 h2 none 0 0 [] (run_firstCells_none w.drew i.size 0 0 0) n (by omega) (by rw [hik]; omega) (by omega) (by omega) (by omega) (growslice_fits (by omega) (by simpa using hb2))
   have hge := grownCap_ge w (0 + n) 0 et
   have hcm := grownCap_le_maxLen w (0 + n) 0 et (by unfold maxLen; omega)
   have hzl := size_zeroCells z.cells (grownCap w (0 + n) 0 et - (0 + n))
   generalize hpo : (Builtin.zeroCells z.cells (grownCap w (0 + n) 0 et - (0 + n))) = zz at *
   have harr : ([] : List Value).toArray ++ Builtin.zeroCells z.cells n ++ zz = ((madeCells z.cells (n * z.cells.size)).toList ++ zz.toList).toArray := by
    have : Builtin.zeroCells z.cells n = madeCells z.cells (n * z.cells.size) := rfl
    rw [this]; apply Array.ext'; simp
   rw [harr] at hr
   have hrow : AsV ⟨β, H, F⟩ w (.arr n k (List.replicate n zx)) (madeCells z.cells (n * z.cells.size)).toList := by
    rw [AsV]; exact ⟨by simp, fun y hy => by rw [List.eq_of_mem_replicate hy]; exact hzw, hm⟩
   have hnew : (w.drew.alloc (.cells ((madeCells z.cells (n * z.cells.size)).toList ++ zz.toList).toArray et)).heap[w.heap.size]? = some (.cells ((madeCells z.cells (n * z.cells.size)).toList ++ zz.toList).toArray et) := Atq w.drew _
   obtain ⟨k1, k2⟩ := hs.new (w' := w.drew.alloc (.cells ((madeCells z.cells (n * z.cells.size)).toList ++ zz.toList).toArray et)) (.obj 0 (.arr n k (List.replicate n zx))) rfl (some (w.heap.size, 0)) (fun b off e => by cases e; exact Nat.le_refl _) rfl rfl rfl (by simp) (fun b hb => AuD w.drew _ hb)
    (fun hm' => .inr ⟨w.heap.size, 0, [], _, zz.toList, et, (0, 0), Atg, by simpa using hnew, ALt _, rfl, AsV.mono hm' hrow⟩)
   refine fin _ _ _ hr k1 k2 ?_
   have := Ay6 (β := β) (H := H) (F := F) (w := w) (x := .arr n k (List.replicate n zx)) (vs := (madeCells z.cells (n * z.cells.size)).toList) (post := zz.toList) (t := et) (fr := (0, 0)) (n := 0 + n) (N := 0) (k := k) (cap := grownCap w (0 + n) 0 et) (cp := n) rfl (by unfold maxLen at hcm; omega) (by omega) (by omega)
    (by
     rw [List.length_append, Array.length_toList, Array.length_toList, hzl, size_madeCells, h3.1, ← Nat.add_mul]
     exact Nat.mul_le_mul_right _ (by omega)) (w0 := w.drew) rfl
   simpa using this
 ·exact h.elim
theorem AV6 (hs : Sim ⟨β, H, F⟩ w) (he : Ato ⟨β, H, F⟩ w e a) {t tx et : TypeId} {i : TypeInfo} {z : Value} (h0 : AtH P t = some (1, et)) (h1 : P.info? et = some i) (h2 : i.zero = some z) (h3 : z.cells.size = 1) (hb : i.bytes = 1) (h4 : ACX P tx = true)
  {x y : Operand} (h : sop P (.appS et (trO x) (trO y)) e H K) : Aw1 P β H F w a K (.call { callee := .builtin .append, args := [x, y].toArray, argTypes := [t, tx].toArray }) := by
 have g4 := AxD h4
 simp only [sop] at h
 split at h
 ·rename_i s hy
  have hsrc := Src.ofString (P := P) w g4 s
  have hlen : ((bl s).map by8).length = s.size := by simp [bl]
  rw [← hlen] at hsrc
  intro o KK Q ho hnd hk
  refine OW.of_wp (by rw [ho]; exact hnd) ?_
  obtain ⟨v', w', β', H', x', r1, r2, r3, r4, r5⟩ := AKb (ty := o.type) hs (he.ev x) h0 h1 h2 h3 (Av3 (bl s)) (by simp [As7]) hsrc (by rw [hb]; exact h)
  unfold Oper.wp
  rw [← he.val hy] at r1
  simp only [execOp, ho, resolve, invoke, builtin, Sem.run_bind, Sem.run_pure, Result.andThen_ok, List.map_toArray, List.map_cons, List.map_nil, r1]
  exact hk _ _ _ _ _ _ r5 r2 r3 r4
 ·exact h.elim

theorem AKI {w : World} {a : Addr} {v : Value} (h : w.cell? a = some v) : w.setCell a v = w := by
 have hb := World.block_lt_of_cell? w a h
 have hh : (w.setCell a v).heap = w.heap := by
  unfold World.cell? at h
  split at h
  ·rename_i c t fr hc
   split at h
   ·cases h
   ·rename_i hsp
    apply Array.ext_getElem?
    intro i
    by_cases hi : i = a.block
    ·subst hi
     simp only [World.setCell, Array.getElem?_modify, if_true, hc, Option.map_some]
     rw [if_neg hsp]
     congr 2
     apply Array.ext_getElem?
     intro j
     rw [Array.getElem?_setIfInBounds]
     split
     ·rename_i hj; subst hj
      split
      ·exact h.symm
      ·rename_i hlt; rw [Array.getElem?_eq_none (by omega)]
     ·rfl
    ·exact Below.heap_setCell _ _ _ _ hi
  ·cases h
 cases w
 simp only [World.setCell] at hh ⊢
 simp only [hh]
theorem Ay3 {b : Nat} : ∀ {vs : List Value} {off : Nat} {w : World}, Aua w b off vs → w.setCells b off vs = w
 | [], off, w, h => rfl
 | v :: vs, off, w, h => by
  have h0 := h 0 v rfl
  rw [World.setCells, AKI (by simpa using h0)]
  exact Ay3 fun j u hj => by
   have := h (j + 1) u (by simpa using hj)
   rw [show off + 1 + j = off + (j + 1) from by omega]; exact this
theorem AxM (b : Nat) : ∀ (xs ys : List Value) (off : Nat) (w : World), w.setCells b off (xs ++ ys) = (w.setCells b off xs).setCells b (off + xs.length) ys
 | [], ys, off, w => by simp [World.setCells]
 | x :: xs, ys, off, w => by
  rw [List.cons_append, World.setCells, World.setCells, AxM b xs ys (off + 1), List.length_cons]
  congr 1; omega
theorem AGj {w : World} {b off o2 : Nat} {us vs : List Value} (h : Aua w b off us) (hd : o2 + vs.length ≤ off) : Aua (w.setCells b o2 vs) b off us := by
 intro j u hj
 rw [World.cell?_setCells_out b vs o2 w ⟨b, off + j, none⟩ (fun _ _ => .inr (by show o2 + vs.length ≤ off + j; omega))]
 exact h j u hj

theorem AJY (hs : Sim ⟨β, H, F⟩ w) {v : Value} {k id ver off n cp : Nat} {p : List (Nat × Nat)} (hx : Rep ⟨β, H, F⟩ w (.os k id ver p off n cp) v)
  {ys : List TV} {us : List Value} (hy : AsX (Ctx.bare ⟨β, H, F⟩) w ys us) (hyk : ∀ y ∈ ys, As7 y = k) {z z' : TV} {N : Nat} {cs : List TV} (hid : H[id]? = some (.obj ver z)) (hg : Ax6 p z = some (.arr N k cs)) (hb : off + n ≤ cs.length)
  (hz : ACP p z (.arr N k (cs.take off ++ (ys.take n ++ cs.drop (off + min ys.length n)))) = some z') {G : Prop}
  (fin : ∀ (bs : Option Addr) (cap : Nat) (w2 : World), v = .slice bs n cap → (∀ vs : List Value, vs = us.take (Nat.min ys.length n * k) → (match bs with | some ad => (storeCells ad vs).run P w = .ok () w2 | none => w2 = w)) →
   Sim ⟨β, H.set id (.obj ver z'), F⟩ w2 → Atb ⟨β, H, F⟩ w ⟨β, H.set id (.obj ver z'), F⟩ w2 → G) : G := by
 have hr := hx.os
 rw [AsV] at hr
 obtain ⟨q1, hr⟩ := hr
 rcases hr with ⟨rfl, ad, hv, _⟩ | ⟨b, o, cap, t', m', hbo, hv, h3, h4, h5, h6⟩
 ·-- nothing is copied
  have hv' : v = .slice ad 0 0 := by simpa using hv
  have hz2 : AsV ⟨β, H, F⟩ w z' (match hs.ob id _ hid with | _ => []) ∨ True := .inr trivial
  -- the object stays aS it is
  have hsame : cs.take off ++ (ys.take 0 ++ cs.drop (off + min ys.length 0)) = cs := by simp
  rw [hsame] at hz
  have hobj : ∀ us', AsV ⟨β, H, F⟩ w z us' → AsV ⟨β, H, F⟩ w z' us' := fun us' hu => by
   obtain ⟨a1, m1, b1, e1, e2, e3⟩ := Axg hu hg
   have hr2 := e3
   rw [AsV] at hr2
   obtain ⟨a2, m2, b2, f1, f2, f3, f4, _⟩ := ABU hu hz e3
   have e4 : a1 = a2 := by
    have := congrArg (List.take a1.length) (e1.symm.trans f1)
    rw [List.append_assoc, List.append_assoc, List.take_left] at this
    rw [this, List.take_left' (by omega)]
   subst e4
   have e5 := e1.symm.trans f1
   rw [List.append_assoc, List.append_assoc] at e5
   have e6 := List.append_cancel_left e5
   have e7 : m1 = m2 := by
    have := congrArg (List.take m1.length) e6
    rw [List.take_left] at this
    rw [this, List.take_left' (by omega)]
   subst e7
   have e8 := List.append_cancel_left e6
   subst e8
   rw [e1]; exact f4
  have hid' : id < H.length := (List.getElem?_eq_some_iff.1 hid).1
  obtain ⟨k1, k2⟩ := hs.turn (o' := .obj ver z') (w' := w) (β' := β) hid rfl rfl (Nat.le_refl _) (fun _ _ _ => rfl) (fun b off e => .inl ⟨off, e⟩) rfl rfl rfl (Nat.le_refl _) (fun _ _ => rfl) (fun _ _ _ => rfl) (fun hm => by
   rcases hs.ob id _ hid with ⟨r0, r1⟩ | ⟨b, off, pre, vs, post, t, fr, r0, r1, r2, r3, r4⟩
   ·exact .inl ⟨r0, AsV.mono hm (hobj _ r1)⟩
   ·exact .inr ⟨b, off, pre, vs, post, t, fr, r0, r1, r2, r3, AsV.mono hm (hobj _ r4)⟩)
  refine fin ad 0 w hv' (fun vs hvs => ?_) k1 k2
  have : vs = [] := by rw [hvs]; simp
  subst this
  cases ad <;> rfl
 ·have hv' : v = .slice (some ⟨b, o + Avm p + off * k, none⟩) n cap := by simpa using hv
  obtain ⟨cells, hcr, hca⟩ := ALK hs hid hbo hg
  have hcr0 := hcr
  rw [AsV] at hcr
  obtain ⟨e1, e2, hcr⟩ := hcr
  -- the array's cells, cut
  have hcut : cs = cs.take off ++ ((cs.drop off).take (min ys.length n) ++ cs.drop (off + min ys.length n)) := by
   rw [show cs.drop (off + min ys.length n) = (cs.drop off).drop (min ys.length n) from by rw [List.drop_drop], List.take_append_drop, List.take_append_drop]
  rw [hcut] at hcr
  obtain ⟨ca, cm, rfl, c1, c2⟩ := AsX.split hcr
  obtain ⟨cb, cc, rfl, c3, c4⟩ := AsX.split c2
  have hyt : AsX (Ctx.bare ⟨β, H, F⟩) w (ys.take n) (us.take (min ys.length n * k)) := by
   have hys : ys = ys.take n ++ ys.drop n := (List.take_append_drop _ _).symm
   rw [hys] at hy
   obtain ⟨u1, u2, hu12, d1, d2⟩ := AsX.split hy
   have hl1 : u1.length = min ys.length n * k := by rw [d1.length, AtJ (fun y hy => hyk y (List.mem_of_mem_take hy)), List.length_take, Nat.min_comm]
   rw [hu12, ← hl1, List.take_left]; exact d1
  have hcal : ca.length = off * k := by rw [c1.length, AtJ (fun y hy => e2 y (List.mem_of_mem_take hy)), List.length_take]; congr 1; omega
  have hcbl : cb.length = min ys.length n * k := by rw [c3.length, AtJ (fun y hy => e2 y (List.mem_of_mem_drop (List.mem_of_mem_take hy))), List.length_take, List.length_drop]; congr 1; omega
  have hul : (us.take (min ys.length n * k)).length = min ys.length n * k := by rw [hyt.length, AtJ (fun y hy => hyk y (List.mem_of_mem_take hy)), List.length_take, Nat.min_comm]
  have hnewr : AsV ⟨β, H, F⟩ w (.arr N k (cs.take off ++ (ys.take n ++ cs.drop (off + min ys.length n)))) (ca ++ (us.take (min ys.length n * k) ++ cc)) := by
   rw [AsV]
   refine ⟨by rw [← e1]; simp only [List.length_append, List.length_take, List.length_drop]; omega, fun q hq => ?_, AsX.append c1 (AsX.append hyt c4)⟩
   rcases List.mem_append.1 hq with hq | hq
   ·exact e2 q (List.mem_of_mem_take hq)
   ·rcases List.mem_append.1 hq with hq | hq
    ·exact hyk q (List.mem_of_mem_take hq)
    ·exact e2 q (List.mem_of_mem_drop hq)
  obtain ⟨k1, k2, k3⟩ := hs.store hid hbo hz hnewr
  -- what is stored is the middle alone
  have hA : Aua w b (o + Avm p) ca := fun j u hj => hca j u (by rw [List.getElem?_append_left (List.getElem?_eq_some_iff.1 hj).1]; exact hj)
  have hC : Aua w b (o + Avm p + ca.length + (us.take (min ys.length n * k)).length) cc := by
   intro j u hj
   have := hca (ca.length + (cb.length + j)) u (by
    rw [List.getElem?_append_right (by omega), show ca.length + (cb.length + j) - ca.length = cb.length + j from by omega, List.getElem?_append_right (by omega), show cb.length + j - cb.length = j from by omega]; exact hj)
   rw [hul, ← hcbl]
   rw [show o + Avm p + ca.length + cb.length + j = o + Avm p + (ca.length + (cb.length + j)) from by omega]; exact this
  have hw' : w.setCells b (o + Avm p) (ca ++ (us.take (min ys.length n * k) ++ cc)) = w.setCells b (o + Avm p + off * k) (us.take (min ys.length n * k)) := by
   rw [AxM, AxM, Ay3 hA, hcal]
   rw [hcal] at hC
   exact Ay3 (AGj hC (Nat.le_refl _))
  rw [hw'] at k1 k2
  have hsub : w.there b (o + Avm p + off * k) (us.take (min ys.length n * k)).length := by
   intro j hj
   have := k3 (ca.length + j) (by simp only [List.length_append]; omega)
   rw [show o + Avm p + (ca.length + j) = o + Avm p + off * k + j from by omega] at this
   exact this
  refine fin _ cap _ hv' (fun vs hvs => ?_) k1 k2
  have hvs' : vs = us.take (min ys.length n * k) := hvs
  subst hvs'
  have := run_storeCells_cells (P := P) b (o + Avm p + off * k) (us.take (min ys.length n * k)) 0 w (fun j hj => by simpa using (hsub j hj).1) (fun j hj => by simpa using (hsub j hj).2) hyt.one
  simpa using this
theorem AIk (hs : Sim ⟨β, H, F⟩ w) {x : TV} {v : Value} (hx : Rep ⟨β, H, F⟩ w x v) {t tx ty et : TypeId} {k : Nat} (h0 : AtH P t = some (k, et))
  {y : Value} {ys : List TV} {us : List Value} (hy : AsX (Ctx.bare ⟨β, H, F⟩) w ys us) (hyk : ∀ y ∈ ys, As7 y = k) (hlen : (Builtin.lenOf y).run P w = .ok ys.length w)
  (hfc : ∀ n, n ≤ ys.length → (Builtin.firstCells k n y).run P w = .ok (us.take (n * k)).toArray w) (h : ACr k x ys H K) :
  ∃ v' w' β' H' x', (Builtin.copy_ #[t, tx] ty #[v, y]).run P w = .ok v' w' ∧ Sim ⟨β', H', F⟩ w' ∧ Atb ⟨β, H, F⟩ w ⟨β', H', F⟩ w' ∧ Rep ⟨β', H', F⟩ w' x' v' ∧ K x' H' := by
 obtain ⟨g1, g2⟩ := Atx h0
 unfold ACr at h
 split at h
 ·rename_i k' id ver p off n cp
  obtain ⟨rfl, h⟩ := h
  split at h
  ·rename_i vr z hid
   obtain ⟨rfl, h⟩ := h
   split at h
   ·rename_i N k'' cs hg
    obtain ⟨rfl, hb, h⟩ := h
    split at h
    ·rename_i z' hz
     have hrun : ∀ (bs : Option Addr) (cap : Nat) (w2 : World), v = .slice bs n cap → (∀ vs : List Value, vs = us.take (Nat.min ys.length n * k'') → (match bs with | some ad => (storeCells ad vs).run P w = .ok () w2 | none => w2 = w)) →
       (Builtin.copy_ #[t, tx] ty #[v, y]).run P w = .ok (.int .i64 (min ys.length n : Nat)) w2 := by
      intro bs cap w2 hv hst
      subst hv
      have h1 := hfc (Nat.min ys.length n) (Nat.min_le_left _ _)
      have h2 := hst _ rfl
      cases bs with
      | none =>
       subst h2
       simp [Builtin.copy_, run_underlying g1, Aus g2, hlen, h1, goInt]
      | some ad =>
       simp [Builtin.copy_, run_underlying g1, Aus g2, hlen, h1, h2, goInt]
     exact AJY (P := P) hs hx hy hyk hid hg hb hz fun bs cap w2 hv hst k1 k2 => ⟨_, w2, β, _, _, hrun bs cap w2 hv hst, k1, k2, Rep.of_val, h⟩
    ·exact h.elim
   ·exact h.elim
  ·exact h.elim
 ·exact h.elim

theorem AKo.first {w : World} {us : List Value} {n k : Nat} {v : Value} (h : AKo w us n k v) (m : Nat) (hm : m ≤ n) : (Builtin.lenOf v).run P w = .ok n w ∧ (Builtin.firstCells k m v).run P w = .ok (us.take (m * k)).toArray w := by
 cases h with
 | mem b off cap hc hl hn hcap =>
  have hle : m * k ≤ n * k := Nat.mul_le_mul_right _ hm
  refine ⟨rfl, ?_⟩
  have := run_loadCells_list (P := P) w ⟨b, off, Option.none⟩ (us.take (m * k)) (fun j u hj => by
   rw [AuP]
   refine hc j u ?_
   rw [List.getElem?_take] at hj
   split at hj
   ·exact hj
   ·cases hj)
  rw [List.length_take, Nat.min_eq_left (by omega)] at this
  simpa [Builtin.firstCells] using this
 | none a cap hn hu hcap =>
  have hm0 : m = 0 := by omega
  subst hm0; subst hn; subst hu
  refine ⟨rfl, ?_⟩
  cases a with
  | none => simp [Builtin.firstCells]
  | some ad => simp [Builtin.firstCells, loadCells, loadCellsFrom]

theorem AWc (hs : Sim ⟨β, H, F⟩ w) (he : Ato ⟨β, H, F⟩ w e a) {t tx et : TypeId} {k : Nat} (h0 : AtH P t = some (k, et)) {x y : Operand} (h : sop P (.copy k (trO x) (trO y)) e H K) :
  Aw1 P β H F w a K (.call { callee := .builtin .copy, args := [x, y].toArray, argTypes := [t, tx].toArray }) := by
 simp only [sop] at h
 split at h
 ·rename_i ys hys
  obtain ⟨hyk, us, hus, hrd⟩ := AAE hs (he.ev y) hys
  intro o KK Q ho hnd hk
  refine OW.of_wp (by rw [ho]; exact hnd) ?_
  obtain ⟨v', w', β', H', x', r1, r2, r3, r4, r5⟩ := AIk (P := P) (tx := tx) (ty := o.type) hs (he.ev x) h0 hus hyk (hrd.first 0 (Nat.zero_le _)).1 (fun n hn => (hrd.first n hn).2) h
  unfold Oper.wp
  simp only [execOp, ho, resolve, invoke, builtin, Sem.run_bind, Sem.run_pure, Result.andThen_ok, List.map_toArray, List.map_cons, List.map_nil, r1]
  exact hk _ _ _ _ _ _ r5 r2 r3 r4
 ·exact h.elim

theorem ATG (hs : Sim ⟨β, H, F⟩ w) (he : Ato ⟨β, H, F⟩ w e a) {t tx et : TypeId} (h0 : AtH P t = some (1, et)) {x y : Operand} (h : sop P (.copyS (trO x) (trO y)) e H K) :
  Aw1 P β H F w a K (.call { callee := .builtin .copy, args := [x, y].toArray, argTypes := [t, tx].toArray }) := by
 simp only [sop] at h
 split at h
 ·rename_i s hy
  have hlen : ((bl s).map by8).length = s.size := by simp [bl]
  have hl : (Builtin.lenOf (a.eval y)).run P w = .ok ((bl s).map by8).length w := by rw [he.val hy, hlen]; rfl
  intro o KK Q ho hnd hk
  refine OW.of_wp (by rw [ho]; exact hnd) ?_
  obtain ⟨v', w', β', H', x', r1, r2, r3, r4, r5⟩ := AIk (P := P) (tx := tx) (ty := o.type) hs (he.ev x) h0 (Av3 (bl s)) (by simp [As7]) hl (fun n hn => by
   rw [he.val hy]
   simp only [Builtin.firstCells, Sem.run_pure]
   congr 1
   apply Array.ext'
   simp [bl, List.extract_eq_take_drop]) h
  unfold Oper.wp
  simp only [execOp, ho, resolve, invoke, builtin, Sem.run_bind, Sem.run_pure, Result.andThen_ok, List.map_toArray, List.map_cons, List.map_nil, r1]
  exact hk _ _ _ _ _ _ r5 r2 r3 r4
 ·exact h.elim

theorem AwO {f : FuncId} {args : Array Value} (hg : AEh P f = true) : (callFunc f args).run P w = .ok (.enter f args) w := by
 unfold AEh at hg
 split at hg
 ·rename_i fn hfn
  rw [Bool.and_eq_true] at hg
  have hb : fn.body.isNone = false := by
   cases hb : fn.body with
   | none => rw [hb] at hg; simp at hg
   | some c => rfl
  have hn : (fn.name == "runtime.NumGoroutine") = false := by simpa using hg.2
  unfold callFunc
  rw [Sem.run_bind, run_program]
  simp only [Result.andThen_ok, hfn, hn, hb, Bool.false_eq_true, if_false]
  rfl
 ·cases hg

theorem Ay7 {f : FuncId} {args : List TV} {vs : List Value} (hs : Sim ⟨β, H, F⟩ w) (hv : Atv ⟨β, H, F⟩ w args vs) (h : As1 P f args H K) {o : Oper} {KK : Act → World → Prop} {Q : Exit → Act → World → Prop}
  (hk : ∀ x H' β' F' w' v, K x H' → Sim ⟨β', H', F'⟩ w' → Atb ⟨β, H, F⟩ w ⟨β', H', F'⟩ w' → Rep ⟨β', H', F'⟩ w' x v → KK (a.put o.dst v) w') : o.upon P a KK Q (.ok (.enter f vs.toArray) w) := by
 rw [Oper.upon_enter]
 refine (h β F w vs hs hv).mono ?_
 rintro _ w' ⟨v, x, β', H', F', rfl, h1, h2, h3, h4⟩
 exact hk _ _ _ _ _ _ h1 h2 h3 h4

theorem APr (hs : Sim ⟨β, H, F⟩ w) (he : Ato ⟨β, H, F⟩ w e a) {f : FuncId} (hg : AEh P f = true) {args : List Operand} {ts : Array TypeId} (h : sop P (.call f (args.map trO)) e H K) : Aw1 P β H F w a K (.call { callee := .value (.func f), args := args.toArray, argTypes := ts }) := by
 simp only [sop] at h
 obtain ⟨ht, h⟩ := h
 have hv := Ay4 he args fun x hx => ht _ (List.mem_map_of_mem hx)
 intro o KK Q ho hnd hk
 refine OW.of_wp (by rw [ho]; exact hnd) ?_
 have := Ay7 (a := a) (o := o) (KK := KK) (Q := Q) hs hv h hk
 unfold Oper.wp
 simp only [execOp, ho, resolve, Act.eval, Deferred.ofValue, Sem.run_bind, Sem.run_pure, Result.andThen_ok, invoke, AwO hg]
 simpa using this

theorem AIm {H : List Ob} {t : TV} {j v : Nat} {l : List UInt8} (h : AM4 H t = some (j, v, l)) : ∃ id ver p x a cp, t = .op id ver p ∧ H[id]? = some (.obj ver x) ∧ Ax6 p x = some (.agg [a, .os 1 j v [] 0 l.length cp]) ∧ As7 a = 1 ∧ H[j]? = some (.bld v AKR l) := by
 unfold AM4 at h
 split at h
 ·rename_i id ver p
  split at h
  ·rename_i v0 y hid
   split at h
   ·rename_i hv
    split at h
    ·rename_i a j0 v2 n cp hg
     split at h
     ·rename_i v3 t l0 hj
      split at h
      ·rename_i hc
       obtain ⟨rfl, rfl, rfl, hw⟩ := hc
       cases h
       subst hv
       exact ⟨id, _, p, y, a, cp, rfl, hid, hg, hw, hj⟩
      ·cases h
     ·cases h
    ·cases h
   ·cases h
  ·cases h
 ·cases h
theorem AYc (hs : Sim ⟨β, H, F⟩ w) (he : Ato ⟨β, H, F⟩ w e a) {f : FuncId} (hg : AEh P f = true) {x : Operand} {ts : Array TypeId} (h : sop P (.bstr f (trO x)) e H K) : Aw1 P β H F w a K (.call { callee := .value (.func f), args := [x].toArray, argTypes := ts }) := by
 refine APr (args := [x]) hs he hg ?_
 simp only [sop] at h
 obtain ⟨hB, h⟩ := h
 split at h
 ·rename_i j v l hr
  obtain ⟨id, ver, p, y, a0, cp, h1, h2, h3, h4, h5⟩ := AIm hr
  show (∀ z ∈ [trO x], At1 (z.ev e) = false) ∧ As1 P f [(trO x).ev e] H K
  rw [h1]
  refine ⟨fun z hz => ?_, hB id ver j v cp p y a0 l H K h2 h3 h4 h5 h.1 h.2⟩
  rw [List.mem_singleton] at hz; subst hz; rw [h1]; rfl
 ·exact h.elim

theorem Atv.append {c : Ctx} {w : World} : ∀ {xs ys : List TV} {us vs : List Value}, Atv c w xs us → Atv c w ys vs → Atv c w (xs ++ ys) (us ++ vs)
 | [], ys, us, vs, h, k => by rw [Atv.nil] at h; subst h; exact k
 | x :: xs, ys, us, vs, h, k => by
  obtain ⟨u, us', rfl, h1, h2⟩ := Atv.cons.1 h
  exact Atv.cons.2 ⟨u, us' ++ vs, rfl, h1, Atv.append h2 k⟩

theorem AVb (hs : Sim ⟨β, H, F⟩ w) (he : Ato ⟨β, H, F⟩ w e a) {t : Nat} {args : List Operand} {ts : Array TypeId} (h : sop P (.callv (.t t) (args.map trO)) e H K) : Aw1 P β H F w a K (.call { callee := .value (.tmp t), args := args.toArray, argTypes := ts }) := by
 simp only [sop] at h
 obtain ⟨ht, h⟩ := h
 have hv := Ay4 he args fun x hx => ht _ (List.mem_map_of_mem hx)
 split at h
 ·rename_i f first caps hx
  obtain ⟨hg, h⟩ := h
  have hr : Rep ⟨β, H, F⟩ w (.fn (.func f) first caps) (a.eval (.tmp t)) := he.rep (x := .tmp t) hx
  have h1 := hr.inv1 (by simp) (by simp) (by simp) (by simp) (by simp)
  rw [AsV] at h1
  obtain ⟨us, vs, hv1, hf, hc⟩ := h1
  have hv' : a.eval (.tmp t) = .func (.func f) us.toArray vs.toArray := by simpa using hv1
  intro o KK Q ho hnd hk
  refine OW.of_wp (by rw [ho]; exact hnd) ?_
  have := Ay7 (a := a) (o := o) (KK := KK) (Q := Q) hs (Atv.append (Atv.append hf hv) hc) h hk
  unfold Oper.wp
  simp only [execOp, ho, resolve, hv', Deferred.ofValue, Sem.run_bind, Sem.run_pure, Result.andThen_ok, invoke, AwO hg]
  simpa using this
 ·rename_i f xs ys hx
  obtain ⟨hxy, hg, h⟩ := h
  rw [Bool.and_eq_true, Array.isEmpty_iff, Array.isEmpty_iff] at hxy
  obtain ⟨rfl, rfl⟩ := hxy
  have hv' : a.eval (.tmp t) = .func (.func f) #[] #[] := he.val (x := .tmp t) hx
  intro o KK Q ho hnd hk
  refine OW.of_wp (by rw [ho]; exact hnd) ?_
  have := Ay7 (a := a) (o := o) (KK := KK) (Q := Q) hs hv h hk
  unfold Oper.wp
  simp only [execOp, ho, resolve, hv', Deferred.ofValue, Sem.run_bind, Sem.run_pure, Result.andThen_ok, invoke, AwO hg]
  simpa using this
 ·rename_i id ver hx
  have hr : Rep ⟨β, H, F⟩ w (.yl id ver) (a.eval (.tmp t)) := he.rep (x := .tmp t) hx
  have h1 := hr.inv1 (by simp) (by simp) (by simp) (by simp) (by simp)
  rw [AsV] at h1
  obtain ⟨_, b, off, hb, hv1⟩ := h1
  have hv' : a.eval (.tmp t) = .func (.yield b) #[] #[] := by simpa using hv1
  intro o KK Q ho hnd hk ro n
  obtain ⟨fn, tmps, aS, bd, hy, hR⟩ := h β F w _ b off hs hv hb (n - 1)
  refine ⟨fun _ _ => trivial, ?_⟩
  rw [show (fz ro).round = ro from rfl, Oper.semAt_eq ro a.eval o (by rw [ho]; exact hnd)]
  have hrun : (execOp a.eval o).run P w = .ok (.round b fn tmps aS bd) w := by
   simp only [execOp, ho, resolve, hv', Deferred.ofValue, Sem.run_bind, Sem.run_pure, Result.andThen_ok, invoke]
   simpa [go_sem] using hy
  rw [hrun, Oper.uponIn_round]
  refine ⟨fun h => by simp [fz, Fence.wide] at h, RoundIn.mono (hR : RoundIn (fz ro) (n - 1) P b fn tmps aS bd w _) ?_⟩
  rintro _ w' ⟨v, x, β', H', F', rfl, k1, k2, k3, k4⟩
  exact hk _ _ _ _ _ _ k1 k2 k3 k4
 ·exact h.elim

theorem A0H (hs : Sim ⟨β, H, F⟩ w) (he : Ato ⟨β, H, F⟩ w e a) {r : Operand} {nm : String} {args : List Operand} {ts : Array TypeId} (h : sop P (.inv (trO r) nm (args.map trO)) e H K) : Aw1 P β H F w a K (.call { callee := .invoke r nm, args := args.toArray, argTypes := ts }) := by
 simp only [sop] at h
 obtain ⟨ht, h⟩ := h
 have hv := Ay4 he args fun x hx => ht _ (List.mem_map_of_mem hx)
 have key : ∀ {t : TypeId} {v0 v1 : Value} {f : FuncId} {y : TV}, a.eval r = .iface t v0 → AEh P f = true → (∃ g, ASf P t nm = some g) → (∀ k, (method (k + 1) t v0 nm).run P w = .ok (f, v1) w) → AJB ⟨β, H, F⟩ w y v1 → As1 P f (y :: (args.map trO).map (·.ev e)) H K →
   Aw1 P β H F w a K (.call { callee := .invoke r nm, args := args.toArray, argTypes := ts }) := by
  intro t v0 v1 f y hr hg hm hrun hy hc o KK Q ho hnd hk
  refine OW.of_wp (by rw [ho]; exact hnd) ?_
  have := Ay7 (a := a) (o := o) (KK := KK) (Q := Q) hs (Atv.cons.2 ⟨_, _, rfl, hy, hv⟩) hc hk
  have hn : P.types.size + Made.depth = (P.types.size + 99) + 1 := rfl
  unfold Oper.wp
  simp only [execOp, ho, resolve, Sem.run_bind, Sem.run_pure, Result.andThen_ok, invoke, hr, callMethod, run_program]
  simp only [Array.size_append, Array.getElem?_append, List.map_toArray]
  simp [callMethod, hn, hrun, AwO hg, ← List.map_take]
  simpa using this
 unfold AYN at h
 split at h
 ·rename_i t x hx
  have hr : Rep ⟨β, H, F⟩ w (.ifc t x) (a.eval r) := he.rep hx
  have h2 := hr.inv1 (by simp) (by simp) (by simp) (by simp) (by simp)
  rw [AsV] at h2
  obtain ⟨u, hv1, vs, hrc, rfl⟩ := h2
  have hv' : a.eval r = .iface t (mkV x vs) := by simpa using hv1
  split at h
  ·rename_i f hm
   exact key hv' h.1 ⟨_, hm⟩ (fun k => AMK hm w _ k) (.inr (.inr ⟨vs, hrc, rfl⟩)) h.2
  ·rename_i f ag sz hm
   obtain ⟨hg, h⟩ := h
   unfold ldT at h
   split at h
   ·rename_i y
    obtain ⟨hl, h⟩ := h
    rw [AsV] at hrc
    obtain ⟨b, off, us, rfl, hF, hr2, hc⟩ := hrc
    have hv2 : a.eval r = .iface t (.pointer (some ⟨b, off, none⟩)) := hv'
    exact key hv2 hg ⟨_, hm⟩ (fun k => AHa hm hr2 hc hl k) (.inr (.inr ⟨us, AsV.unbare hr2, rfl⟩)) h
   ·rename_i id ver p
    split at h
    ·rename_i v z hid
     obtain ⟨rfl, h⟩ := h
     split at h
     ·rename_i y hg2
      obtain ⟨hl, h⟩ := h
      rw [AsV] at hrc
      obtain ⟨_, b, o, hb, rfl⟩ := hrc
      have hv2 : a.eval r = .iface t (.pointer (some ⟨b, o + Avm p, none⟩)) := hv'
      obtain ⟨us, hr2, hc⟩ := ALK hs hid hb hg2
      exact key hv2 hg ⟨_, hm⟩ (fun k => AHa hm hr2 hc hl k) (.inr (.inr ⟨us, hr2, rfl⟩)) h
     ·exact h.elim
    ·exact h.elim
   ·exact h.elim
  ·exact h.elim
 ·exact h.elim

theorem AQK (hs : Sim ⟨β, H, F⟩ w) (he : Ato ⟨β, H, F⟩ w e a) {t et : TypeId} {k n : Nat} {i : TypeInfo} {z : Value} {x : TV} (h0 : AtH P t = some (k, et)) (h1 : P.info? et = some i) (h2 : i.zero = some z) (h3 : z.cells.size = k ∧ k ≠ 0 ∧ n * k ≤ 16777216) (h4 : zT P 400 et z.cells.toList = some x)
  {ps : Array (Nat × Operand)} (h : sop P (.bslice k n x (ps.toList.map fun q => (q.1, trO q.2))) e H K) : Aw1 P β H F w a K (.buildSlice t n ps) := by
 obtain ⟨g1, g2⟩ := Atx h0
 obtain ⟨hz, hzp⟩ := Axl (c := ⟨β, H, F⟩) (w := w) h4
 simp only [sop] at h
 obtain ⟨⟨hok, hpure, hn⟩, h⟩ := h
 have hm := Ay8 hz (by rw [h3.1]; exact h3.2.1) n
 have hx : As7 x = k := by rw [← hz.length]; simpa using h3.1
 have hplace : ∀ i k', (List.replicate n k)[i]? = some k' → (fun i => some (i * k, k)) i = some (((List.replicate n k).take i).sum, k') := by
  intro i k' h
  rw [List.getElem?_replicate] at h
  split at h
  ·rename_i hi; cases h
   simp only [List.take_replicate, List.sum_replicate_nat]
   rw [Nat.min_eq_left (by omega)]
  ·cases h
 let av : Opd → Value := fun x => match x with | .t n => a.tmps.getD n undef | .c v => v | .g n => .pointer (some ⟨n, 0, none⟩)
 have hav : ∀ x : Opd, Rep ⟨β, H, F⟩ w (x.ev e) (av x) := by
  intro x; cases x with
  | t n => exact he.1 n
  | c v => exact Rep.of_val
  | g n => exact he.ev (.global n)
 have hav2 : ∀ x : Operand, av (trO x) = a.eval x := by intro x; cases x <;> rfl
 obtain ⟨us', k1, k2, k3⟩ := ABy hav hplace (ps.toList.map fun q => (q.1, trO q.2)) (List.replicate n x) (madeCells z.cells (n * z.cells.size)).toList (by simp [hx]) hm hok
 have hfl : ∀ (qs : List (Nat × Opd)) (l : List TV), At4 l = true → Atz e qs → At4 (Avz e l qs) = true := by
  intro qs
  induction qs with
  | nil => intro l hl _; exact hl
  | cons q qs ih =>
   obtain ⟨i, x⟩ := q
   intro l hl hp
   rw [Atz] at hp
   refine ih _ ?_ hp.2
   have hs : ∀ (l : List TV) (i : Nat), At4 l = true → At4 (l.set i (x.ev e)) = true := by
    intro l
    induction l with
    | nil => intro i h; simpa using h
    | cons y l ihl =>
     intro i h
     rw [At4, Bool.and_eq_true] at h
     cases i with
     | zero => rw [List.set_cons_zero, At4, hp.1, h.2]; rfl
     | succ i => rw [List.set_cons_succ, At4, h.1, ihl i h.2]; rfl
   exact hs l i hl
 have hrp : ∀ n, At4 (List.replicate n x) = true := by
  intro n; induction n with
  | zero => rfl
  | succ n ih => rw [List.replicate_succ, At4, hzp, ih]; rfl
 have hparts : ((ps.toList.map fun q => (q.1, trO q.2)).map fun q => (q.1, av q.2)) = ps.toList.map fun q => (q.1, a.eval q.2) := by simp [hav2]
 rw [hparts, Array.toArray_toList] at k1
 have hlen : (Avz e (List.replicate n x) (ps.toList.map fun q => (q.1, trO q.2))).length = n := by
  have := congrArg List.length k3
  simpa using this
 have hrow : AsV ⟨β, H, F⟩ w (.arr n k (Avz e (List.replicate n x) (ps.toList.map fun q => (q.1, trO q.2)))) us' := by
  rw [AsV]
  refine ⟨hlen, fun y hy => ?_, AsX.pure (hfl _ _ (hrp n) hpure) k2⟩
  have : As7 y ∈ (Avz e (List.replicate n x) (ps.toList.map fun q => (q.1, trO q.2))).map As7 := List.mem_map_of_mem hy
  rw [k3] at this
  exact List.eq_of_mem_replicate this
 obtain ⟨q1, q2⟩ := hs.newObj (post := []) hrow et (0, 0) (ALt _)
 refine Aw1.mk (s := fun _ => Instr.buildSlice t n (ps.map fun (i, x) => (i, a.eval x))) (v := .slice (some ⟨w.heap.size, 0, none⟩) n n) (fun o ho => by simp only [execOp, ho]) (fun o => ?_) q1 q2 (Ay6 (w := w) (N := 0) rfl (by omega) (Nat.le_refl _) (Nat.le_refl _) (by rw [List.append_nil, hrow.length, As7]; exact Nat.le_refl _) (w0 := w) rfl) h
 have hns : ¬ (16777216 < n * k) := by omega
 have hmk : (Array.range (n * k)).map (fun x => z.cells[x % z.cells.size]!) = madeCells z.cells (n * k) := rfl
 have hzv : (zeroValue et).run P w = .ok z w := by simp [zeroValue, typeInfo, h1, h2]
 rw [h3.1] at k1
 have hpl2 : (ps.map fun (i, x) => (i, a.eval x)).toList = ps.toList.map fun q => (q.1, a.eval q.2) := by rw [Array.toList_map]
 have k1' : Instr.fill (fun i => some (i * k, k)) (madeCells z.cells (n * k)) (ps.map fun (i, x) => (i, a.eval x)).toList = some us'.toArray := by rw [hpl2]; exact k1
 simp only [Instr.buildSlice, Sem.run_bind, run_underlying g1, Result.andThen_ok, Aus g2]
 rw [Sem.run_ite, if_neg (by simpa using hns)]
 by_cases hn0 : n * k = 0
 ·have hmk0 : madeCells z.cells (n * k) = #[] := by rw [hn0]; simp [madeCells]
  rw [hmk0] at k1'
  simp only [hn0, if_true, Sem.run_bind, Sem.run_pure, Result.andThen_ok]
  have he0 : (Array.range 0).map (fun x => (#[] : Array Value)[x % (#[] : Array Value).size]!) = #[] := by simp
  rw [he0, k1']
  simp [newRow, newObj, Sem.run]
 ·simp only [hn0, if_false, Sem.run_bind, hzv, Sem.run_pure, Result.andThen_ok]
  rw [hmk, k1']
  simp [newRow, newObj, Sem.run]

/-- A new block that nobody writes to. -/
theorem Sim.newFix (hs : Sim ⟨β, H, F⟩ w) {cs : List TV} {k : Nat} {us : List Value} (hw : ∀ x ∈ cs, As7 x = k) (hr : AsX (Ctx.bare ⟨β, H, F⟩) w cs us) (t : TypeId) (hn : cs.length ≤ 9223372036854775807) :
  Sim ⟨β, H, fun b => F b ∨ b = w.heap.size⟩ (w.alloc (.cells us.toArray t (0, 0))) ∧ Atb ⟨β, H, F⟩ w ⟨β, H, fun b => F b ∨ b = w.heap.size⟩ (w.alloc (.cells us.toArray t (0, 0))) ∧
  Rep ⟨β, H, fun b => F b ∨ b = w.heap.size⟩ (w.alloc (.cells us.toArray t (0, 0))) (.sl k cs) (.slice (some ⟨w.heap.size, 0, none⟩) cs.length cs.length) := by
 have hold : ∀ b, b < w.heap.size → (w.alloc (.cells us.toArray t (0, 0))).heap[b]? = w.heap[b]? := fun b hb => AuD w _ hb
 have hm : AwX ⟨β, H, F⟩ w ⟨β, H, fun b => F b ∨ b = w.heap.size⟩ (w.alloc (.cells us.toArray t (0, 0))) := ⟨fun b hb => ⟨.inl hb, hold b (hs.lt b hb)⟩, fun _ _ h => ⟨h, rfl⟩, fun b hb => AtQ (hold b hb)⟩
 have hsz : (w.alloc (.cells us.toArray t (0, 0))).heap.size = w.heap.size + 1 := by simp
 refine ⟨⟨fun id ob ho => AHF.mono hm (Ctx.has_of ho) (fun hl b off hb => hold b (hs.own_lt (Ctx.own_of ho hl hb))) (hs.ob id ob ho), hs.inj, fun b hb hF => hF.elim (hs.apart b hb) fun e => by have := hs.own_lt hb; omega, fun b hb => ?_, hs.glob.keep hm.stay⟩, ⟨rfl, rfl, rfl, by rw [hsz]; omega, hm.has, hm.shape, fun b hb _ => hold b hb, fun _ h => .inl h, fun b hlt h => h.elim .inl fun e => by omega, fun _ _ h => h⟩, ?_⟩
 ·have h1 : F b ∨ b = w.heap.size := hb
  rw [hsz]
  rcases h1 with h1 | h1
  ·have := hs.lt b h1
   have h2 : b < w.heap.size := this
   omega
  ·omega
 ·have hnew := Atq w (.cells us.toArray t (0, 0))
  refine Rep.of1 ?_ (by simp) (by simp)
  rw [AsV]
  refine ⟨hw, .inr ⟨w.heap.size, 0, cs.length, us, rfl, Nat.le_refl _, hn, .inr rfl, AsX.mono (AwX.bare hm) hr, ?_⟩⟩
  have := AwZ (w := w.alloc (.cells us.toArray t (0, 0))) (b := w.heap.size) (pre := []) (a := []) (m := us) (q := []) (post := []) (t := t) (fr := (0, 0)) (by simpa using hnew)
  simpa using this
theorem A0B (hs : Sim ⟨β, H, F⟩ w) (he : Ato ⟨β, H, F⟩ w e a) {t et : TypeId} {k n : Nat} {i : TypeInfo} {z : Value} {x : TV} (h0 : AtH P t = some (k, et)) (h1 : P.info? et = some i) (h2 : i.zero = some z) (h3 : z.cells.size = k ∧ k ≠ 0 ∧ n * k ≤ 16777216) (h4 : zT P 400 et z.cells.toList = some x)
  {ps : Array (Nat × Operand)} (h : pop (.bsl k n x (ps.toList.map fun q => (q.1, trO q.2))) e H fun y => K y H) : Aw1 P β H F w a K (.buildSlice t n ps) := by
 obtain ⟨g1, g2⟩ := Atx h0
 obtain ⟨hz, hzp⟩ := Axl (c := ⟨β, H, F⟩) (w := w) h4
 simp only [pop] at h
 obtain ⟨⟨hok, hpure, hn⟩, h⟩ := h
 have hm := Ay8 hz (by rw [h3.1]; exact h3.2.1) n
 have hx : As7 x = k := by rw [← hz.length]; simpa using h3.1
 have hplace : ∀ i k', (List.replicate n k)[i]? = some k' → (fun i => some (i * k, k)) i = some (((List.replicate n k).take i).sum, k') := by
  intro i k' h
  rw [List.getElem?_replicate] at h
  split at h
  ·rename_i hi; cases h
   simp only [List.take_replicate, List.sum_replicate_nat]
   rw [Nat.min_eq_left (by omega)]
  ·cases h
 let av : Opd → Value := fun x => match x with | .t n => a.tmps.getD n undef | .c v => v | .g n => .pointer (some ⟨n, 0, none⟩)
 have hav : ∀ x : Opd, Rep ⟨β, H, F⟩ w (x.ev e) (av x) := by
  intro x; cases x with
  | t n => exact he.1 n
  | c v => exact Rep.of_val
  | g n => exact he.ev (.global n)
 have hav2 : ∀ x : Operand, av (trO x) = a.eval x := by intro x; cases x <;> rfl
 obtain ⟨us', k1, k2, k3⟩ := ABy hav hplace (ps.toList.map fun q => (q.1, trO q.2)) (List.replicate n x) (madeCells z.cells (n * z.cells.size)).toList (by simp [hx]) hm hok
 have hfl : ∀ (qs : List (Nat × Opd)) (l : List TV), At4 l = true → Atz e qs → At4 (Avz e l qs) = true := by
  intro qs
  induction qs with
  | nil => intro l hl _; exact hl
  | cons q qs ih =>
   obtain ⟨i, x⟩ := q
   intro l hl hp
   rw [Atz] at hp
   refine ih _ ?_ hp.2
   have hs : ∀ (l : List TV) (i : Nat), At4 l = true → At4 (l.set i (x.ev e)) = true := by
    intro l
    induction l with
    | nil => intro i h; simpa using h
    | cons y l ihl =>
     intro i h
     rw [At4, Bool.and_eq_true] at h
     cases i with
     | zero => rw [List.set_cons_zero, At4, hp.1, h.2]; rfl
     | succ i => rw [List.set_cons_succ, At4, h.1, ihl i h.2]; rfl
   exact hs l i hl
 have hrp : ∀ n, At4 (List.replicate n x) = true := by
  intro n; induction n with
  | zero => rfl
  | succ n ih => rw [List.replicate_succ, At4, hzp, ih]; rfl
 have hparts : ((ps.toList.map fun q => (q.1, trO q.2)).map fun q => (q.1, av q.2)) = ps.toList.map fun q => (q.1, a.eval q.2) := by simp [hav2]
 rw [hparts, Array.toArray_toList] at k1
 have hlen : (Avz e (List.replicate n x) (ps.toList.map fun q => (q.1, trO q.2))).length = n := by
  have := congrArg List.length k3
  simpa using this
 have hrow : AsV ⟨β, H, F⟩ w (.arr n k (Avz e (List.replicate n x) (ps.toList.map fun q => (q.1, trO q.2)))) us' := by
  rw [AsV]
  refine ⟨hlen, fun y hy => ?_, AsX.pure (hfl _ _ (hrp n) hpure) k2⟩
  have : As7 y ∈ (Avz e (List.replicate n x) (ps.toList.map fun q => (q.1, trO q.2))).map As7 := List.mem_map_of_mem hy
  rw [k3] at this
  exact List.eq_of_mem_replicate this
 obtain ⟨q1, q2, q3⟩ := hs.newFix (cs := Avz e (List.replicate n x) (ps.toList.map fun q => (q.1, trO q.2))) (k := k) (us := us') (by rw [AsV] at hrow; exact hrow.2.1) (by rw [AsV] at hrow; exact hrow.2.2) et (by rw [hlen]; omega)
 rw [hlen] at q3
 refine Aw1.mk (s := fun _ => Instr.buildSlice t n (ps.map fun (i, x) => (i, a.eval x))) (v := .slice (some ⟨w.heap.size, 0, none⟩) n n) (fun o ho => by simp only [execOp, ho]) (fun o => ?_) q1 q2 q3 h
 have hns : ¬ (16777216 < n * k) := by omega
 have hmk : (Array.range (n * k)).map (fun x => z.cells[x % z.cells.size]!) = madeCells z.cells (n * k) := rfl
 have hzv : (zeroValue et).run P w = .ok z w := by simp [zeroValue, typeInfo, h1, h2]
 rw [h3.1] at k1
 have hpl2 : (ps.map fun (i, x) => (i, a.eval x)).toList = ps.toList.map fun q => (q.1, a.eval q.2) := by rw [Array.toList_map]
 have k1' : Instr.fill (fun i => some (i * k, k)) (madeCells z.cells (n * k)) (ps.map fun (i, x) => (i, a.eval x)).toList = some us'.toArray := by rw [hpl2]; exact k1
 simp only [Instr.buildSlice, Sem.run_bind, run_underlying g1, Result.andThen_ok, Aus g2]
 rw [Sem.run_ite, if_neg (by simpa using hns)]
 by_cases hn0 : n * k = 0
 ·have hmk0 : madeCells z.cells (n * k) = #[] := by rw [hn0]; simp [madeCells]
  rw [hmk0] at k1'
  simp only [hn0, if_true, Sem.run_bind, Sem.run_pure, Result.andThen_ok]
  have he0 : (Array.range 0).map (fun x => (#[] : Array Value)[x % (#[] : Array Value).size]!) = #[] := by simp
  rw [he0, k1']
  simp [newRow, newObj, Sem.run]
 ·simp only [hn0, if_false, Sem.run_bind, hzv, Sem.run_pure, Result.andThen_ok]
  rw [hmk, k1']
  simp [newRow, newObj, Sem.run]

theorem AWH (hs : Sim ⟨β, H, F⟩ w) (he : Ato ⟨β, H, F⟩ w e a) {t et : TypeId} {k : Nat} {i : TypeInfo} {z : Value} {zx : TV} (h0 : AtH P t = some (k, et)) (h1 : P.info? et = some i) (h2 : i.zero = some z) (h3 : z.cells.size = k ∧ k ≠ 0) (h4 : zT P 400 et z.cells.toList = some zx)
  {x : Operand} (h : sop P (.clrS k zx (trO x)) e H K) : Aw1 P β H F w a K (.call { callee := .builtin .clear, args := [x].toArray, argTypes := [t].toArray }) := by
 obtain ⟨g1, g2⟩ := Atx h0
 obtain ⟨hz, hzp⟩ := Axl (c := Ctx.bare ⟨β, H, F⟩) (w := w) h4
 simp only [sop] at h
 split at h
 ·rename_i k' id ver p off n cp hx
  unfold ACr at h
  obtain ⟨rfl, h⟩ := h
  split at h
  ·rename_i vr zz hid
   obtain ⟨rfl, h⟩ := h
   split at h
   ·rename_i N k'' cs hg
    obtain ⟨rfl, hb, h⟩ := h
    split at h
    ·rename_i z' hz'
     have hm := Ay8 hz (by rw [h3.1]; exact h3.2) n
     have hzw : As7 zx = k'' := by rw [← hz.length]; simpa using h3.1
     have hzz : Builtin.zeroCells z.cells n = madeCells z.cells (n * z.cells.size) := rfl
     intro op KK Q hop hnd hk
     refine OW.of_wp (by rw [hop]; exact hnd) ?_
     unfold Oper.wp
     refine AJY (P := P) hs (he.rep hx) hm (fun y hy => by rw [List.eq_of_mem_replicate hy]; exact hzw) hid hg hb hz' fun bs cap w2 hv hst k1 k2 => ?_
     have hst' := hst _ rfl
     have hful : (madeCells z.cells (n * z.cells.size)).toList.take (Nat.min (List.replicate n zx).length n * k'') = (madeCells z.cells (n * z.cells.size)).toList := by
      apply List.take_of_length_le
      rw [Array.length_toList, size_madeCells, List.length_replicate, h3.1]
      simp
     rw [hful] at hst'
     have hr : (Builtin.clear_ #[t] op.type #[a.eval x]).run P w = .ok (.tuple #[]) w2 := by
      rw [hv]
      cases bs with
      | none =>
       subst hst'
       simp [Builtin.clear_, run_underlying g1]
      | some ad =>
       by_cases hn : n = 0
       ·subst hn
        have : w2 = w := by
         have e : (madeCells z.cells (0 * z.cells.size)).toList = [] := by apply List.eq_nil_of_length_eq_zero; simp [size_madeCells]
         rw [e] at hst'
         simpa [storeCells] using hst'.symm
        subst this
        simp [Builtin.clear_, run_underlying g1]
       ·have hst2 : (storeCells ad (Builtin.zeroCells z.cells n).toList).run P w = .ok () w2 := hst'
        obtain ⟨n', rfl⟩ : ∃ n', n = n' + 1 := ⟨n - 1, by omega⟩
        simp [Builtin.clear_, run_underlying g1, zeroValue, typeInfo, h1, h2, hst2]
     simp only [execOp, hop, resolve, invoke, builtin, Sem.run_bind, Sem.run_pure, Result.andThen_ok, List.map_toArray, List.map_cons, List.map_nil, hr]
     exact hk _ _ _ _ _ _ h k1 k2 Rep.any
    ·exact h.elim
   ·exact h.elim
  ·exact h.elim
 ·rename_i hx
  have hv := he.val hx
  intro op KK Q hop hnd hk
  refine OW.of_wp (by rw [hop]; exact hnd) ?_
  unfold Oper.wp
  have hr : (Builtin.clear_ #[t] op.type #[a.eval x]).run P w = .ok (.tuple #[]) w := by
   rw [hv]; simp [Builtin.clear_, run_underlying g1]
  simp only [execOp, hop, resolve, invoke, builtin, Sem.run_bind, Sem.run_pure, Result.andThen_ok, List.map_toArray, List.map_cons, List.map_nil, hr]
  exact hk _ _ _ _ _ _ h hs (Atb.refl _ _) Rep.any
 ·exact h.elim
/-- WHAT MAKES OR WRITES DOES WHAT THE MACHINE OF VALUES SAYS. -/
theorem AOX (hs : Sim ⟨β, H, F⟩ w) (he : Ato ⟨β, H, F⟩ w e a) {op : Op} {so : SOp} (ht : trS P op = some so) (h : sop P so e H K) : Aw1 P β H F w a K op := by
 cases op with
 | binOp op t x y yt =>
  simp only [trS] at ht
  split at ht
  ·rename_i et hu; split at ht
   ·rename_i ho; cases ht; rw [Bool.and_eq_true] at ho; exact A0L hs he ho.1 hu ho.2 h
   ·cases ht
  ·cases ht
 | alloc t =>
  simp only [trS] at ht
  split at ht
  ·rename_i i h1; split at ht
   ·rename_i z h2
    obtain ⟨x, h3, e9⟩ := Option.map_eq_some_iff.1 ht
    split at e9
    ·subst e9; exact AQr hs h1 h2 h3 h
    ·subst e9; exact AVk hs h1 h2 h3 h
   ·cases ht
  ·cases ht
 | box t x =>
  simp only [trS, Option.some.injEq] at ht
  split at ht
  ·subst ht; exact AWr hs he h
  ·subst ht; exact A0w hs he h
 | buildSlice t n ps =>
  simp only [trS] at ht
  split at ht
  ·rename_i k et h0; split at ht
   ·rename_i i h1; split at ht
    ·rename_i z h2; split at ht
     ·rename_i h3; obtain ⟨x, h4, rfl⟩ := Option.map_eq_some_iff.1 ht; exact AQK hs he h0 h1 h2 h3 h4 h
     ·cases ht
    ·cases ht
   ·cases ht
  ·cases ht
 | store t x y =>
  simp only [trS] at ht
  obtain ⟨sz, h2, rfl⟩ := Option.map_eq_some_iff.1 ht
  exact AU3 hs he h2 h
 | makeSlice t l c =>
  simp only [trS] at ht
  split at ht
  ·rename_i k et h0; split at ht
   ·rename_i i h1; split at ht
    ·rename_i z h2; split at ht
     ·rename_i h3; obtain ⟨x, h4, rfl⟩ := Option.map_eq_some_iff.1 ht; exact AZQ hs he h0 h1 h2 h3 h4 h
     ·cases ht
    ·cases ht
   ·cases ht
  ·cases ht
 | panic x => simp only [trS, Option.some.injEq] at ht; subst ht; simp [sop] at h
 | range t x =>
  simp only [trS] at ht
  split at ht
  ·rename_i h1; cases ht; exact AX3 hs he h1 h
  ·split at ht
   ·rename_i h1; cases ht; exact AXZ hs he h1 h
   ·cases ht
 | next x b =>
  cases b with
  | true => simp only [trS, Option.some.injEq] at ht; subst ht; exact AYf hs he h
  | false => simp only [trS, Option.some.injEq] at ht; subst ht; exact AXg hs he h
 | makeMap t r =>
  simp only [trS] at ht
  split at ht
  ·rename_i kt et h1; obtain ⟨kk, h2, rfl⟩ := Option.map_eq_some_iff.1 ht; exact AZ9 hs he h1 h
  ·cases ht
 | mapUpdate t m k x =>
  simp only [trS] at ht
  split at ht
  ·rename_i kt et h1; obtain ⟨kk, h2, rfl⟩ := Option.map_eq_some_iff.1 ht; exact AV8 hs he h1 h2 h
  ·cases ht
 | mapEntry t m k =>
  simp only [trS] at ht
  split at ht
  ·rename_i h1; cases ht; exact AV9 hs he h1 h
  ·cases ht
 | entryStore t m st x => simp only [trS, Option.some.injEq] at ht; subst ht; exact AX5 hs he h
 | convert src dst x =>
  simp only [trS] at ht
  split at ht
  ·rename_i h1; cases ht; exact AZV hs he h1 h
  ·cases ht
 | call cl =>
  obtain ⟨callee, args, ts⟩ := cl
  obtain ⟨args⟩ := args
  obtain ⟨ts⟩ := ts
  cases callee with
  | invoke f m => simp only [trS, Option.some.injEq] at ht; subst ht; exact A0H hs he h
  | value f =>
   cases f with
   | func f =>
    simp only [trS] at ht
    split at ht
    ·rename_i hg
     split at ht
     ·split at ht
      ·cases ht; exact AYc hs he hg h
      ·cases ht; exact APr (args := [_]) hs he hg h
     ·cases ht; exact APr hs he hg h
    ·cases ht
   | tmp t => simp only [trS, Option.some.injEq] at ht; subst ht; exact AVb hs he h
   | const v => simp [trS] at ht
   | global g => simp [trS] at ht
  | builtin b =>
   cases b with
   | append =>
    rcases args with _ | ⟨x, _ | ⟨y, _ | ⟨z, args⟩⟩⟩ <;> rcases ts with _ | ⟨t, _ | ⟨tx, _ | ⟨t', ts⟩⟩⟩ <;> simp only [trS] at ht <;> first | (cases ht; done) | skip
    split at ht
    ·rename_i k et h0; split at ht
     ·rename_i i h1; split at ht
      ·rename_i z h2; split at ht
       ·rename_i h3; split at ht
        ·rename_i h4; split at ht
         ·rename_i h5; obtain ⟨rfl, h5⟩ := h5; cases ht; exact AV6 hs he h0 h1 h2 h3 h5 h4 h
         ·cases ht
        ·split at ht
         ·rename_i h4; cases ht; exact AZ2 hs he h0 h1 h2 h3 h4 h
         ·split at ht
          ·rename_i h4
           rw [Bool.and_eq_true, decide_eq_true_eq] at h4
           obtain ⟨zx, hz, rfl⟩ := Option.map_eq_some_iff.1 ht
           exact AXI hs he h0 h1 h2 ⟨h3, h4.2⟩ hz h4.1 h
          ·cases ht
       ·cases ht
      ·cases ht
     ·cases ht
    ·cases ht
   | copy =>
    rcases args with _ | ⟨x, _ | ⟨y, _ | ⟨z, args⟩⟩⟩ <;> rcases ts with _ | ⟨t, _ | ⟨tx, _ | ⟨t', ts⟩⟩⟩ <;> simp only [trS] at ht <;> first | (cases ht; done) | skip
    split at ht
    ·rename_i k et h0; split at ht
     ·split at ht
      ·rename_i hk; subst hk; cases ht; exact ATG hs he h0 h
      ·cases ht
     ·split at ht
      ·cases ht; exact AWc hs he h0 h
      ·cases ht
    ·cases ht
   | delete =>
    rcases args with _ | ⟨x, _ | ⟨y, _ | ⟨z, args⟩⟩⟩ <;> rcases ts with _ | ⟨t, ts⟩ <;> simp only [trS] at ht <;> first | (cases ht; done) | skip
    split at ht
    ·rename_i kt et h1; obtain ⟨kk, h2, rfl⟩ := Option.map_eq_some_iff.1 ht; exact AWm hs he h1 h2 h
    ·cases ht
   | clear =>
    rcases args with _ | ⟨x, _ | ⟨y, args⟩⟩ <;> rcases ts with _ | ⟨t, _ | ⟨tx, ts⟩⟩ <;> simp only [trS] at ht <;> first | (cases ht; done) | skip
    split at ht
    ·rename_i k et h0; split at ht
     ·rename_i i h1; split at ht
      ·rename_i z h2; split at ht
       ·rename_i h3; obtain ⟨zx, h4, rfl⟩ := Option.map_eq_some_iff.1 ht; exact AWH hs he h0 h1 h2 h3 h4 h
       ·cases ht
      ·cases ht
     ·cases ht
    ·cases ht
   | _ => simp [trS] at ht
 | _ => simp [trS] at ht

end sound
end Go.Proofs.YtingoaihnlhiaaaDoor


namespace Go.Proofs.YtingoaihnlhiaaaDoor
open Go.RowKit
variable [AtT]
set_option linter.unusedSectionVars false
set_option linter.unusedSimpArgs false
set_option linter.unusedVariables false
set_option autoImplicit false

def Opd.rd : Opd → List Nat
 | .t n => [n]
 | .c _ => []
 | .g _ => []
def rdO : Option Opd → List Nat
 | none => []
 | some x => x.rd
def POp.rd : POp → List Nat
 | .mov x | .un _ x | .conv _ x | .s2s x | .b2s x | .load _ _ x | .fieldA _ _ x | .field _ _ _ _ x | .ext _ x | .lenS x | .lenV x | .iface _ x | .nilc x => x.rd
 | .bin _ _ x y | .idxA _ x y | .idxAA _ _ x y | .idx _ _ _ x y | .idxS x y | .min x y | .max x y | .eqB x y _ | .eqN _ x y _ => x.rd ++ y.rd
 | .pick x y z => x.rd ++ (y.rd ++ z.rd)
 | .slS x lo hi | .slV _ x lo hi | .slA _ _ x lo hi => x.rd ++ (rdO lo ++ rdO hi)
 | .mkf _ a b => (a ++ b).flatMap Opd.rd
 | .build _ _ ps | .buildA _ _ _ ps | .bsl _ _ _ ps => ps.flatMap fun q => q.2.rd
 | .gen _ xs => xs.flatMap Opd.rd

theorem As6 {e e' : Env} {x : Opd} (h : ∀ s ∈ x.rd, get e s = get e' s) : x.ev e = x.ev e' := by
 cases x with
 | t n => exact h n (by simp [Opd.rd])
 | c v => rfl
 | g n => rfl
theorem AHy {e e' : Env} {lo hi : Option Opd} (h : ∀ s ∈ rdO lo ++ rdO hi, get e s = get e' s) (n lim : Nat) (K : Nat → Nat → Prop) : bnd e lo hi n lim K = bnd e' lo hi n lim K := by
 unfold bnd
 cases lo with
 | none => cases hi with
  | none => rfl
  | some y => simp only [As6 (x := y) (e := e) (e' := e') fun s hs => h s (by simp [rdO, hs])]
 | some x =>
  have h1 := As6 (x := x) (e := e) (e' := e') fun s hs => h s (by simp [rdO, hs])
  cases hi with
  | none => simp only [h1]
  | some y => simp only [h1, As6 (x := y) (e := e) (e' := e') fun s hs => h s (by simp [rdO, hs])]
theorem AxV {e e' : Env} : ∀ {ps : List (Nat × Opd)} (h : ∀ s ∈ ps.flatMap (fun q => q.2.rd), get e s = get e' s) (zs : List TV) (szs : List Nat), Avz e zs ps = Avz e' zs ps ∧ Au9 e szs ps = Au9 e' szs ps ∧ Atz e ps = Atz e' ps
 | [], h, zs, szs => ⟨rfl, rfl, rfl⟩
 | (i, x) :: ps, h, zs, szs => by
  have h1 := As6 (x := x) (e := e) (e' := e') fun s hs => h s (by simp [hs])
  have h2 : ∀ s ∈ ps.flatMap (fun q => q.2.rd), get e s = get e' s := fun s hs => h s (by rw [List.flatMap_cons]; exact List.mem_append_right _ hs)
  obtain ⟨k1, k2, k3⟩ := AxV h2 (zs.set i (x.ev e')) szs
  refine ⟨by rw [Avz, Avz, h1, k1], by rw [Au9, Au9, h1, k2], by rw [Atz, Atz, h1, k3]⟩
theorem AuC {e e' : Env} : ∀ {xs : List Opd} (h : ∀ s ∈ xs.flatMap Opd.rd, get e s = get e' s), xs.map (·.ev e) = xs.map (·.ev e')
 | [], h => rfl
 | x :: xs, h => by
  rw [List.map_cons, List.map_cons, As6 (x := x) (e := e) (e' := e') fun s hs => h s (by simp [hs]), AuC fun s hs => h s (by rw [List.flatMap_cons]; exact List.mem_append_right _ hs)]

theorem AKh {o : POp} {e e' : Env} (h : ∀ s ∈ o.rd, get e s = get e' s) (H : List Ob) (K : TV → Prop) : pop o e H K = pop o e' H K := by
 have two : ∀ {x y : Opd}, (∀ s ∈ x.rd ++ y.rd, get e s = get e' s) → x.ev e = x.ev e' ∧ y.ev e = y.ev e' := fun h => ⟨As6 fun s hs => h s (List.mem_append_left _ hs), As6 fun s hs => h s (List.mem_append_right _ hs)⟩
 cases o with
 | mov x => simp only [pop, As6 h]
 | un op x => simp only [pop, As6 h]
 | conv k x => simp only [pop, As6 h]
 | s2s x => simp only [pop, As6 h]
 | b2s x => simp only [pop, As6 h]
 | load ag sz x => simp only [pop, As6 h]
 | fieldA i off x => simp only [pop, As6 h]
 | field ag sz i off x => simp only [pop, As6 h]
 | ext i x => simp only [pop, As6 h]
 | lenS x => simp only [pop, As6 h]
 | lenV x => simp only [pop, As6 h]
 | iface t x => simp only [pop, As6 h]
 | nilc x => simp only [pop, As6 h]
 | bin t op x y => obtain ⟨h1, h2⟩ := two h; simp only [pop, h1, h2]
 | idxA k x y => obtain ⟨h1, h2⟩ := two h; simp only [pop, h1, h2]
 | idxAA n k x y => obtain ⟨h1, h2⟩ := two h; simp only [pop, h1, h2]
 | idx ag n k x y => obtain ⟨h1, h2⟩ := two h; simp only [pop, h1, h2]
 | idxS x y => obtain ⟨h1, h2⟩ := two h; simp only [pop, h1, h2]
 | min x y => obtain ⟨h1, h2⟩ := two h; simp only [pop, h1, h2]
 | max x y => obtain ⟨h1, h2⟩ := two h; simp only [pop, h1, h2]
 | eqB x y n => obtain ⟨h1, h2⟩ := two h; simp only [pop, h1, h2]
 | eqN kd x y n => obtain ⟨h1, h2⟩ := two h; simp only [pop, h1, h2]
 | pick x y z =>
  have h1 := As6 (x := x) (e := e) (e' := e') fun s hs => h s (List.mem_append_left _ hs)
  obtain ⟨h2, h3⟩ := two fun s hs => h s (List.mem_append_right _ hs)
  simp only [pop, h1, h2, h3]
 | slS x lo hi =>
  have h1 := As6 (x := x) (e := e) (e' := e') fun s hs => h s (List.mem_append_left _ hs)
  have h2 := fun n lim K => AHy (lo := lo) (hi := hi) (e := e) (e' := e') (fun s hs => h s (List.mem_append_right _ hs)) n lim K
  simp only [pop, h1, h2]
 | slV k x lo hi =>
  have h1 := As6 (x := x) (e := e) (e' := e') fun s hs => h s (List.mem_append_left _ hs)
  have h2 := fun n lim K => AHy (lo := lo) (hi := hi) (e := e) (e' := e') (fun s hs => h s (List.mem_append_right _ hs)) n lim K
  simp only [pop, h1, h2]
 | slA n k x lo hi =>
  have h1 := As6 (x := x) (e := e) (e' := e') fun s hs => h s (List.mem_append_left _ hs)
  have h2 := fun n lim K => AHy (lo := lo) (hi := hi) (e := e) (e' := e') (fun s hs => h s (List.mem_append_right _ hs)) n lim K
  simp only [pop, h1, h2]
 | mkf f a b =>
  have h1 := AuC (xs := a) (e := e) (e' := e') fun s hs => h s (by show s ∈ (a ++ b).flatMap Opd.rd; rw [List.flatMap_append]; exact List.mem_append_left _ hs)
  have h2 := AuC (xs := b) (e := e) (e' := e') fun s hs => h s (by show s ∈ (a ++ b).flatMap Opd.rd; rw [List.flatMap_append]; exact List.mem_append_right _ hs)
  have h3 : (∀ x ∈ a ++ b, At1 (x.ev e) = false) = (∀ x ∈ a ++ b, At1 (x.ev e') = false) := by
   refine propext ⟨fun k x hx => ?_, fun k x hx => ?_⟩
   ·rw [← As6 (e := e) (e' := e') fun s hs => h s (List.mem_flatMap.2 ⟨x, hx, hs⟩)]; exact k x hx
   ·rw [As6 (e := e) (e' := e') fun s hs => h s (List.mem_flatMap.2 ⟨x, hx, hs⟩)]; exact k x hx
  simp only [pop, h1, h2, h3]
 | gen g xs => simp only [pop, AuC (xs := xs) (e := e) (e' := e') h]
 | build zs szs ps =>
  obtain ⟨k1, k2, k3⟩ := AxV h zs szs
  simp only [pop, k1, k2]
 | bsl k n z ps =>
  obtain ⟨k1, k2, k3⟩ := AxV h (List.replicate n z) (List.replicate n k)
  simp only [pop, k1, k2, k3]
 | buildA n k zs ps =>
  obtain ⟨k1, k2, k3⟩ := AxV h zs (List.replicate n k)
  simp only [pop, k1, k2, k3]

theorem AFp {e : Env} {lo hi : Option Opd} {n lim : Nat} {K : Nat → Nat → Prop} (h : bnd e lo hi n lim K) : ∃ l m, (∀ K', bnd e lo hi n lim K' = (True ∧ K' l m)) ∧ K l m := by
 unfold bnd at h
 split at h
 ·rename_i l m h1 h2
  refine ⟨l.toNat, m.toNat, fun K' => ?_, h.2⟩
  unfold bnd
  simp only [h1, h2, h.1, true_and, and_self]
 ·exact h.elim

/-- It yields one thing. -/
theorem APj {o : POp} {e : Env} {H : List Ob} {K : TV → Prop} (h : pop o e H K) : ∃ x, (∀ K' : TV → Prop, K' x → pop o e H K') ∧ K x := by
 cases o with
 | mov x => exact ⟨_, fun K' k => k, h⟩
 | iface t x => exact ⟨_, fun K' k => ⟨h.1, k⟩, h.2⟩
 | mkf f a b => exact ⟨_, fun K' k => ⟨h.1, k⟩, h.2⟩
 | build zs szs ps => exact ⟨_, fun K' k => ⟨h.1, k⟩, h.2⟩
 | gen g xs =>
  simp only [pop] at h
  split at h
  ·rename_i y hy; exact ⟨y, fun K' k => by simp only [pop, hy]; exact k, h⟩
  ·exact h.elim
 | bsl k n z ps => exact ⟨_, fun K' k => ⟨h.1, k⟩, h.2⟩
 | buildA n k zs ps => exact ⟨_, fun K' k => ⟨h.1, h.2.1, k⟩, h.2.2⟩
 | slS x lo hi =>
  simp only [pop] at h
  split at h
  ·rename_i s hs
   obtain ⟨l, m, h1, h2⟩ := AFp h
   exact ⟨_, fun K' k => by simp only [pop, hs, h1, true_and]; exact k, h2⟩
  ·exact h.elim
 | slV k x lo hi =>
  simp only [pop] at h
  split at h
  ·rename_i k' cs hs
   obtain ⟨rfl, h⟩ := h
   obtain ⟨l, m, h1, h2⟩ := AFp h
   exact ⟨_, fun K' k => by simp only [pop, hs, h1, true_and]; exact k, h2⟩
  ·rename_i k' id ver p off n cp hs
   obtain ⟨rfl, h⟩ := h
   obtain ⟨l, m, h1, h2⟩ := AFp h
   exact ⟨_, fun K' k => by simp only [pop, hs, h1, true_and]; exact k, h2⟩
  ·rename_i ad hs
   obtain ⟨l, m, h1, h2⟩ := AFp h
   exact ⟨_, fun K' k => by simp only [pop, hs, h1, true_and]; exact k, h2⟩
  ·exact h.elim
 | slA n k x lo hi =>
  simp only [pop] at h
  split at h
  ·rename_i n' k' cs hs
   obtain ⟨rfl, rfl, hn, h⟩ := h
   obtain ⟨l, m, h1, h2⟩ := AFp h
   exact ⟨_, fun K' k => by simp only [pop, hs, h1, true_and, hn]; exact k, h2⟩
  ·rename_i id ver p hs
   split at h
   ·rename_i v z hid
    obtain ⟨rfl, hn, h⟩ := h
    split at h
    ·rename_i n' k' cs hg
     obtain ⟨rfl, rfl, h⟩ := h
     obtain ⟨l, m, h1, h2⟩ := AFp h
     exact ⟨_, fun K' k => by simp only [pop, hs, hid, hg, h1, true_and, hn]; exact k, h2⟩
    ·exact h.elim
   ·exact h.elim
  ·exact h.elim
 | min x y =>
  simp only [pop] at h
  split at h
  ·rename_i k a k' b h1 h2; exact ⟨_, fun K' k => by simp only [pop, h1, h2]; exact k, h⟩
  ·exact h.elim
 | max x y =>
  simp only [pop] at h
  split at h
  ·rename_i k a k' b h1 h2; exact ⟨_, fun K' k => by simp only [pop, h1, h2]; exact k, h⟩
  ·exact h.elim
 | idx ag n k x y =>
  simp only [pop] at h
  split at h
  ·rename_i n' k' cs ik j h1 h2
   obtain ⟨rfl, rfl, h3, h⟩ := h
   split at h
   ·rename_i y h4; exact ⟨_, fun K' k => by simp only [pop, h1, h2, h4, true_and]; exact ⟨h3, h.1, k⟩, h.2⟩
   ·exact h.elim
  ·exact h.elim
 | _ =>
  simp only [pop] at h
  (repeat' split at h) <;> first
   | exact h.elim
   | exact ⟨_, fun K' k => by simp_all [pop], h⟩
   | exact ⟨_, fun K' k => by simp_all [pop], h.2⟩
   | exact ⟨_, fun K' k => by simp_all [pop], h.2.2⟩
   | exact ⟨_, fun K' k => by simp_all [pop], h.2.2.2⟩
   | exact h.2.elim
   | exact h.2.2.elim
   | exact h.2.2.2.elim
end Go.Proofs.YtingoaihnlhiaaaDoor


namespace Go.Proofs.YtingoaihnlhiaaaDoor
open Go.RowKit
variable [AtT]
set_option linter.unusedSectionVars false
set_option linter.unusedSimpArgs false
set_option linter.unusedVariables false
set_option autoImplicit false

inductive VOp where
 | p (o : POp)
 | s (o : SOp)
 deriving Inhabited

structure VO where
 dst : Option Nat
 op : VOp
 g : Option (Nat × Bool)
 deriving Inhabited

def trV (bz : Bool) (P : Program) (op : Op) : Option VOp := match trP P op with
 | some o => some (.p o)
 | none => (trS P op).map fun o => match bz, o with
  | true, .bslice k n z ps => .p (.bsl k n z ps)
  | _, o => .s o
def trG (ops : List Oper) : Option (Nat × Bool) → Option (Option (Nat × Bool))
 | none => some none
 | some (j, b) => match (ops[j]?).bind (·.dst) with
  | some s => some (some (s, b))
  | none => none
def trL (bz : Bool) (P : Program) (N : Nat) (all : List Oper) : List Oper → Option (List VO)
 | [] => some []
 | o :: os => match trV bz P o.op, trG all o.guard, trL bz P N all os with
  | some v, some g, some r => if o.dst.all (· < N) then some (⟨o.dst, v, g⟩ :: r) else none
  | _, _, _ => none
def AHE (e : Env) : Option Nat → TV → Env
 | none, _ => e
 | some d, x => (d, x) :: e
def forget (kp : List Nat) (e : Env) : Env := kp.map fun s => (s, get e s)

def vop (P : Program) (o : VOp) (e : Env) (H : List Ob) (K : TV → List Ob → Prop) : Prop := match o with
 | .p o => pop o e H fun x => K x H
 | .s o => sop P o e H K

def isB : Value → Option Bool
 | .bool b => some b
 | _ => none
/-- What a guard's slot says. -/
def AHZ (e : Env) (s : Nat) (K : Env → Option Bool → Prop) : Prop := match get e s with
 | .val v => K e (isB v)
 | .any => (∀ t, K ((s, .val (.bool t)) :: e) (some t)) ∧ ∀ v, isB v = none → K ((s, .val v) :: e) none
 | _ => False

def AAI (W : VOp → Env → List Ob → (TV → List Ob → Prop) → Prop) : List VO → (Env → List Ob → Prop) → Env → List Ob → Prop
 | [], K, e, H => K e H
 | o :: r, K, e, H => match o.g with
  | none => W o.op e H fun x H => AAI W r K (AHE e o.dst x) H
  | some (s, b) => AHZ e s fun e q => match q with
   | some t => if t = b then W o.op e H fun x H => AAI W r K (AHE e o.dst x) H else AAI W r K (AHE e o.dst (.val undef)) H
   | none => AAI W r K (AHE e o.dst (.val undef)) H

def AGo (P : Program) (l : List VO) (K : Env → List Ob → Prop) (e : Env) (H : List Ob) : Prop := AAI (vop P) l K e H
/-- Operations that may end in a panic: what holds then is KP. -/
def pvop (P : Program) (KP : Value → List Ob → Prop) (o : VOp) (e : Env) (H : List Ob) (K : TV → List Ob → Prop) : Prop := match o with
 | .s (.call f xs) => (∀ x ∈ xs, At1 (x.ev e) = false) ∧ ACS P f (xs.map (·.ev e)) H K KP
 | .s (.pan x) => (match x.ev e with
  | .val (.iface t v) => KP (.iface t v) H
  | .ifc t (.val v) => KP (.iface t v) H
  | _ => False)
 | o => vop P o e H K
def AB6 (P : Program) (KP : Value → List Ob → Prop) (l : List VO) (K : Env → List Ob → Prop) (e : Env) (H : List Ob) : Prop := AAI (pvop P KP) l K e H

section sound
variable {P : Program} {bz : Bool}

/-- The frame aS it stands. -/
structure Fr (N : Nat) (D : List Deferred) (c : Ctx) (w : World) (e : Env) (a : Act) : Prop where
 env : Ato c w e a
 size : a.tmps.size = N
 defers : a.defers = D

theorem AtX (k s : Nat) (x : TV) (e : Env) : get ((k, x) :: e) s = if k = s then x else get e s := rfl
theorem Avd : ∀ (kp : List Nat) (e : Env) (s : Nat), get (forget kp e) s = if s ∈ kp then get e s else .any
 | [], e, s => by simp [forget, get]
 | k :: kp, e, s => by
  have := Avd kp e s
  simp only [forget, List.map_cons] at this ⊢
  rw [AtX, this]
  by_cases h : k = s
  ·subst h; simp
  ·rw [if_neg h]
   have h' : ¬ s = k := fun e => h e.symm
   simp only [List.mem_cons, h', false_or]
theorem Fr.forget {N : Nat} {D : List Deferred} {c : Ctx} {w : World} {e : Env} {a : Act} (h : Fr N D c w e a) (kp : List Nat) : Fr N D c w (forget kp e) a :=
 ⟨⟨fun s => by
  rw [Avd]; split
  ·exact h.env.1 s
  ·exact Rep.any, h.env.2⟩, h.size, h.defers⟩
theorem Fr.put {N : Nat} {D : List Deferred} {c c' : Ctx} {w w' : World} {e : Env} {a : Act} (h : Fr N D c w e a) (hm : AwX c w c' w') {dst : Option Nat} (hd : dst.all (· < N) = true) {x : TV} {v : Value} (hx : Rep c' w' x v) : Fr N D c' w' (AHE e dst x) (a.put dst v) := by
 cases dst with
 | none => exact ⟨⟨fun s => Rep.mono hm (h.env.1 s), h.env.2.keep hm.stay⟩, h.size, h.defers⟩
 | some d =>
  have hd' : d < N := by simpa using hd
  refine ⟨⟨fun s => ?_, h.env.2.keep hm.stay⟩, by simp [Act.put, h.size], h.defers⟩
  show Rep c' w' (get ((d, x) :: e) s) ((a.tmps.setIfInBounds d v).getD s undef)
  rw [AtX]
  by_cases hs : d = s
  ·subst hs
   rw [if_pos rfl]
   have : (a.tmps.setIfInBounds d v).getD d undef = v := by
    simp [Array.getD, h.size, hd']
   rw [this]; exact hx
  ·rw [if_neg hs]
   have : (a.tmps.setIfInBounds d v).getD s undef = a.tmps.getD s undef := by
    simp [Array.getElem?_setIfInBounds_ne hs]
   rw [this]; exact Rep.mono hm (h.env.1 s)

theorem APM {β : Nat → Nat → Option (Nat × Nat)} {H : List Ob} {F : Nat → Prop} {w : World} {a : Act} {e : Env} {K : TV → List Ob → Prop} (hs : Sim ⟨β, H, F⟩ w) (he : Ato ⟨β, H, F⟩ w e a) {op : Op} {k n : Nat} {z : TV} {ps : List (Nat × Opd)} (ht : trS P op = some (.bslice k n z ps)) (h : pop (.bsl k n z ps) e H fun x => K x H) : Aw1 P β H F w a K op := by
 cases op
 case buildSlice t m qs =>
  simp only [trS] at ht
  split at ht
  ·rename_i h1; split at ht
   ·rename_i h2; split at ht
    ·rename_i h3; split at ht
     ·rename_i h4
      obtain ⟨zx, h5, e⟩ := Option.map_eq_some_iff.1 ht
      simp only [SOp.bslice.injEq] at e
      obtain ⟨rfl, rfl, rfl, rfl⟩ := e
      exact A0B hs he h1 h2 h3 h4 h5 h
     ·cases ht
    ·cases ht
   ·cases ht
  ·cases ht
 case next x b => cases b <;> simp [trS] at ht
 all_goals (simp only [trS] at ht; (repeat' split at ht) <;> first | (simp at ht; done) | skip)
theorem AGU {β : Nat → Nat → Option (Nat × Nat)} {H : List Ob} {F : Nat → Prop} {w : World} {a : Act} {e : Env} {K : TV → List Ob → Prop} (hs : Sim ⟨β, H, F⟩ w) (he : Ato ⟨β, H, F⟩ w e a) {op : Op} {vo : VOp} (ht : trV bz P op = some vo) (h : vop P vo e H K) : Aw1 P β H F w a K op := by
 unfold trV at ht
 split at ht
 ·rename_i po hp; cases ht
  exact As3.does hs fun ty => AOh hs he hp h
 ·obtain ⟨so, hso, hv⟩ := Option.map_eq_some_iff.1 ht
  split at hv
  ·subst hv; exact APM hs he hso h
  ·subst hv; exact AOX hs he hso h

/-- What is asked of a reading of operations. -/
def A0d (P : Program) (β : Nat → Nat → Option (Nat × Nat)) (H : List Ob) (F : Nat → Prop) (w : World) (a : Act) (K : TV → List Ob → Prop) (KP : Value → List Ob → Prop) (op : Op) : Prop :=
 ∀ (o : Oper) (KK : Act → World → Prop) (Q : Exit → Act → World → Prop), o.op = op → (∀ c, op ≠ .defer c) →
  (∀ x H' β' F' w' v, K x H' → Sim ⟨β', H', F'⟩ w' → Atb ⟨β, H, F⟩ w ⟨β', H', F'⟩ w' → Rep ⟨β', H', F'⟩ w' x v → KK (a.put o.dst v) w') →
  (∀ u H' β' F' w', KP u H' → Sim ⟨β', H', F'⟩ w' → Atb ⟨β, H, F⟩ w ⟨β', H', F'⟩ w' → Q (.panic [{ v := u, recovered := false }]) a w') → OW P o a w KK Q
def Ayu (P : Program) (W : VOp → Env → List Ob → (TV → List Ob → Prop) → Prop) (KP : Value → List Ob → Prop) : Prop :=
 ∀ {β : Nat → Nat → Option (Nat × Nat)} {H : List Ob} {F : Nat → Prop} {w : World} {a : Act} {e : Env} {K : TV → List Ob → Prop}, Sim ⟨β, H, F⟩ w → Ato ⟨β, H, F⟩ w e a → ∀ {bz : Bool} {op : Op} {vo : VOp}, trV bz P op = some vo → W vo e H K → A0d P β H F w a K KP op
theorem Ayu.vop {KP : Value → List Ob → Prop} : Ayu P (vop P) KP := fun hs he _ _ _ ht h o KK Q ho hn hk _ => AGU hs he ht h o KK Q ho hn hk

theorem AEQ {ops : Array Oper} {a : Act} {j s : Nat} (hj : (ops[j]?).bind (·.dst) = some s) : yielded ops a.tmps j = isB (a.tmps.getD s undef) := by
 unfold yielded
 rw [hj]
 simp only [Option.bind_some]
 rw [Array.getD_eq_getD_getElem?]
 cases h : a.tmps[s]? with
 | none => rfl
 | some v => cases v <;> rfl
theorem Fr.know {N : Nat} {D : List Deferred} {c : Ctx} {w : World} {e : Env} {a : Act} (h : Fr N D c w e a) (s : Nat) : Fr N D c w ((s, .val (a.tmps.getD s undef)) :: e) a :=
 ⟨⟨fun s' => by
  rw [AtX]
  split
  ·rename_i hs; subst hs; exact Rep.of_val
  ·exact h.env.1 s', h.env.2⟩, h.size, h.defers⟩
theorem AK7 {N : Nat} {D : List Deferred} {c : Ctx} {w : World} {e : Env} {a : Act} {s : Nat} {K : Env → Option Bool → Prop} (hf : Fr N D c w e a) (h : AHZ e s K) : ∃ e', Fr N D c w e' a ∧ K e' (isB (a.tmps.getD s undef)) := by
 unfold AHZ at h
 split at h
 ·rename_i v hv
  have := hf.env.1 s
  rw [hv, Rep.val] at this
  exact ⟨e, hf, by rw [this]; exact h⟩
 ·refine ⟨_, hf.know s, ?_⟩
  cases hb : isB (a.tmps.getD s undef) with
  | none => exact h.2 _ hb
  | some t =>
   have : a.tmps.getD s undef = .bool t := by
    generalize a.tmps.getD s undef = v at hb
    cases v <;> simp [isB] at hb
    rw [hb]
   rw [this]; exact h.1 t
 ·exact h.elim

theorem AL9 {op : Op} {v : VOp} (h : trV bz P op = some v) : ∀ c, op ≠ .defer c := by
 intro c hc; subst hc; simp [trV, trP, trS] at h

theorem AIH {a : Act} {dst : Option Nat} {v : Value} {s : Nat} (h : dst ≠ some s) : (a.put dst v).tmps.getD s undef = a.tmps.getD s undef := by
 cases dst with
 | none => rfl
 | some d =>
  have hd : d ≠ s := fun e => h (by rw [e])
  show (a.tmps.setIfInBounds d v).getD s undef = _
  simp only [Array.getD_eq_getD_getElem?]
  rw [Array.getElem?_setIfInBounds_ne hd]
/-- What is known of the slots that the operations do not fill. -/
def ALB (l : List VO) (e : Env) : Env := e.filter fun p => l.all fun o => o.dst != some p.1
theorem AJ4 {l : List VO} : ∀ (e : Env) (s : Nat), get (ALB l e) s = if l.all (fun o => o.dst != some s) then get e s else .any
 | [], s => by simp [ALB, get]
 | (k, x) :: e, s => by
  have ih := AJ4 (l := l) e s
  unfold ALB at ih ⊢
  rw [List.filter_cons]
  by_cases hk : l.all (fun o => o.dst != some k) = true
  ·rw [if_pos hk, AtX, AtX, ih]
   by_cases e1 : k = s
   ·subst e1; rw [if_pos rfl, if_pos hk, if_pos rfl]
   ·rw [if_neg e1, if_neg e1]
  ·rw [if_neg hk, ih, AtX]
   by_cases e1 : k = s
   ·subst e1; rw [if_neg hk, if_neg hk]
   ·rw [if_neg e1]
theorem APg {P : Program} {N : Nat} {all : List Oper} : ∀ {os : List Oper} {l : List VO}, trL bz P N all os = some l → l.map (·.dst) = os.map (·.dst)
 | [], l, h => by simp only [trL, Option.some.injEq] at h; subst h; rfl
 | o :: os, l, h => by
  rw [trL] at h
  split at h
  ·split at h
   ·rename_i r _ _ hr _
    cases h
    simp [APg hr]
   ·cases h
  ·cases h
theorem Fr.drop {N : Nat} {D : List Deferred} {c c' : Ctx} {w w' : World} {e : Env} {a a' : Act} (hf : Fr N D c w e a) (hm : AwX c w c' w') (h0 : Fr N D c' w' [] a') {all : List Oper} {os : List Oper} {l : List VO} (ht : trL bz P N all os = some l) (h : ∀ s, (∀ o ∈ os, o.dst ≠ some s) → a'.tmps.getD s undef = a.tmps.getD s undef) : Fr N D c' w' (ALB l e) a' := by
 refine ⟨⟨fun s => ?_, h0.env.2⟩, h0.size, h0.defers⟩
 rw [AJ4]
 split
 ·rename_i hl
  rw [h s fun o ho e1 => ?_]
  ·exact Rep.mono hm (hf.env.1 s)
  ·have : some s ∈ l.map (·.dst) := by rw [APg ht]; exact List.mem_map.2 ⟨o, ho, e1⟩
   obtain ⟨v, hv, hv2⟩ := List.mem_map.1 this
   have := List.all_eq_true.1 hl v hv
   rw [hv2] at this
   simp at this
 ·exact Rep.any
theorem AxO {W : VOp → Env → List Ob → (TV → List Ob → Prop) → Prop} {KP : Value → List Ob → Prop} (hW : Ayu P W KP) {N : Nat} {D : List Deferred} {ro : Option Nat} {nn : Nat} {all : Array Oper} {rest : List Oper} : ∀ {os : List Oper} {l : List VO}, trL bz P N all.toList os = some l → ∀ {K : Env → List Ob → Prop} {e : Env} {H : List Ob} {β : Nat → Nat → Option (Nat × Nat)} {F : Nat → Prop} {w : World} {a : Act} {QQ : Exit → Act → World → Prop},
  AAI W l K e H → Sim ⟨β, H, F⟩ w → Fr N D ⟨β, H, F⟩ w e a →
  (∀ e' H' β' F' w' a', K e' H' → Sim ⟨β', H', F'⟩ w' → Fr N D ⟨β', H', F'⟩ w' e' a' → Atb ⟨β, H, F⟩ w ⟨β', H', F'⟩ w' → wpListIn (fz ro) nn P all QQ rest a' w') →
  (∀ u H' β' F' w' a', KP u H' → Sim ⟨β', H', F'⟩ w' → Fr N D ⟨β', H', F'⟩ w' [] a' → (∀ s, (∀ o ∈ os, o.dst ≠ some s) → a'.tmps.getD s undef = a.tmps.getD s undef) → Atb ⟨β, H, F⟩ w ⟨β', H', F'⟩ w' → QQ (.panic [{ v := u, recovered := false }]) a' w') → wpListIn (fz ro) nn P all QQ (os ++ rest) a w
 | [], l, ht, K, e, H, β, F, w, a, QQ, h, hs, hf, hk, hp => by
  simp only [trL, Option.some.injEq] at ht; subst ht
  exact hk e H β F w a h hs hf (Atb.refl _ _)
 | o :: os, l, ht, K, e, H, β, F, w, a, QQ, h, hs, hf, hk, hp => by
  rw [trL] at ht
  split at ht
  ·rename_i v g r hv hg hr
   split at ht
   ·rename_i hd
    cases ht
    have go : W v e H (fun x H => AAI W r K (AHE e o.dst x) H) → o.wpIn (fz ro) nn P a w (wpListIn (fz ro) nn P all QQ (os ++ rest)) QQ := fun h => by
     refine hW hs hf.env hv h o _ QQ rfl (AL9 hv) ?_ (fun u H' β' F' w' hK hs' hl => hp u H' β' F' w' a hK hs' ⟨⟨fun _ => Rep.any, hs'.glob⟩, hf.size, hf.defers⟩ (fun _ _ => rfl) hl) ro nn
     intro x H' β' F' w' u hK hs' hl hx
     have hm := hl.mono hs
     exact AxO hW hr hK hs' (hf.put hm hd hx) (fun e' H'' β'' F'' w'' a' k1 k2 k3 k4 => hk _ _ _ _ _ _ k1 k2 k3 (hl.trans k4)) fun u H'' β'' F'' w'' a' k1 k2 k3 k5 k4 => hp _ _ _ _ _ _ k1 k2 k3 (fun s hs => (k5 s fun o ho => hs o (List.mem_cons_of_mem _ ho)).trans (AIH (hs o (by simp)))) (hl.trans k4)
    rw [List.cons_append, wpListIn]
    have hgd := hg
    rw [AAI] at h
    cases hog : o.guard with
    | none =>
     rw [hog] at hg
     simp only [trG, Option.some.injEq] at hg; subst hg
     have : Region.wanted o (yielded all a.tmps) = true := by simp [Region.wanted, hog]
     rw [if_pos this]
     exact go h
    | some jb =>
     obtain ⟨j, b⟩ := jb
     rw [hog] at hg
     simp only [trG] at hg
     split at hg
     ·rename_i s hj
      cases hg
      simp only at h
      obtain ⟨e', hf', h⟩ := AK7 hf h
      have hy : yielded all a.tmps j = isB (a.tmps.getD s undef) := AEQ (by simpa using hj)
      have skip : AAI W r K (AHE e' o.dst (.val undef)) H → wpListIn (fz ro) nn P all QQ (os ++ rest) (a.put o.dst undef) w := fun h => AxO hW hr h hs (hf'.put ⟨fun b hb => ⟨hb, rfl⟩, fun _ _ h => ⟨h, rfl⟩, fun _ _ => rfl⟩ hd Rep.of_val) hk fun u H'' β'' F'' w'' a' k1 k2 k3 k5 k4 => hp _ _ _ _ _ _ k1 k2 k3 (fun s hs => (k5 s fun o ho => hs o (List.mem_cons_of_mem _ ho)).trans (AIH (hs o (by simp)))) k4
      have go' : W v e' H (fun x H => AAI W r K (AHE e' o.dst x) H) → o.wpIn (fz ro) nn P a w (wpListIn (fz ro) nn P all QQ (os ++ rest)) QQ := fun h => by
       refine hW hs hf'.env hv h o _ QQ rfl (AL9 hv) ?_ (fun u H' β' F' w' hK hs' hl => hp u H' β' F' w' a hK hs' ⟨⟨fun _ => Rep.any, hs'.glob⟩, hf.size, hf.defers⟩ (fun _ _ => rfl) hl) ro nn
       intro x H' β' F' w' u hK hs' hl hx
       have hm := hl.mono hs
       exact AxO hW hr hK hs' (hf'.put hm hd hx) (fun e' H'' β'' F'' w'' a' k1 k2 k3 k4 => hk _ _ _ _ _ _ k1 k2 k3 (hl.trans k4)) fun u H'' β'' F'' w'' a' k1 k2 k3 k5 k4 => hp _ _ _ _ _ _ k1 k2 k3 (fun s hs => (k5 s fun o ho => hs o (List.mem_cons_of_mem _ ho)).trans (AIH (hs o (by simp)))) (hl.trans k4)
      cases hq : isB (a.tmps.getD s undef) with
      | some t =>
       rw [hq] at h hy
       by_cases htb : t = b
       ·subst htb
        have : Region.wanted o (yielded all a.tmps) = true := by simp [Region.wanted, hog, hy]
        rw [if_pos this]
        simp only [if_true] at h
        exact go' h
       ·have : ¬ (Region.wanted o (yielded all a.tmps) = true) := by simp [Region.wanted, hog, hy, htb]
        rw [if_neg this]
        simp only [htb, if_false] at h
        exact ⟨fun _ _ => trivial, skip h⟩
      | none =>
       rw [hq] at h hy
       have : ¬ (Region.wanted o (yielded all a.tmps) = true) := by simp [Region.wanted, hog, hy]
       rw [if_neg this]
       exact ⟨fun _ _ => trivial, skip h⟩
     ·cases hg
   ·cases ht
  ·cases ht

theorem AHo {W : VOp → Env → List Ob → (TV → List Ob → Prop) → Prop} {KP : Value → List Ob → Prop} (hW : Ayu P W KP) {N : Nat} {D : List Deferred} {ro : Option Nat} {nn : Nat} {all : Array Oper} {rest : List Oper} {os : List Oper} {l : List VO} (ht : trL bz P N all.toList os = some l) {K : Env → List Ob → Prop} {e : Env} {H : List Ob} {β : Nat → Nat → Option (Nat × Nat)} {F : Nat → Prop} {w : World} {a : Act} {QQ : Exit → Act → World → Prop}
  (h : AAI W l K e H) (hs : Sim ⟨β, H, F⟩ w) (hf : Fr N D ⟨β, H, F⟩ w e a)
  (hk : ∀ e' H' β' F' w' a', K e' H' → Sim ⟨β', H', F'⟩ w' → Fr N D ⟨β', H', F'⟩ w' e' a' → Atb ⟨β, H, F⟩ w ⟨β', H', F'⟩ w' → wpListIn (fz ro) nn P all QQ rest a' w')
  (hp : ∀ u H' β' F' w' a', KP u H' → Sim ⟨β', H', F'⟩ w' → Fr N D ⟨β', H', F'⟩ w' [] a' → Atb ⟨β, H, F⟩ w ⟨β', H', F'⟩ w' → QQ (.panic [{ v := u, recovered := false }]) a' w') : wpListIn (fz ro) nn P all QQ (os ++ rest) a w :=
 AxO hW ht h hs hf hk fun u H' β' F' w' a' k1 k2 k3 _ k4 => hp u H' β' F' w' a' k1 k2 k3 k4

theorem AIy {N : Nat} {D : List Deferred} {ro : Option Nat} {nn : Nat} {all : Array Oper} {os : List Oper} {l : List VO} (ht : trL bz P N all.toList os = some l) {K : Env → List Ob → Prop} {e : Env} {H : List Ob} {β : Nat → Nat → Option (Nat × Nat)} {F : Nat → Prop} {w : World} {a : Act} {QQ : Exit → Act → World → Prop}
  (h : AGo P l K e H) (hs : Sim ⟨β, H, F⟩ w) (hf : Fr N D ⟨β, H, F⟩ w e a)
  (hk : ∀ e' H' β' F' w' a', K e' H' → Sim ⟨β', H', F'⟩ w' → Fr N D ⟨β', H', F'⟩ w' e' a' → Atb ⟨β, H, F⟩ w ⟨β', H', F'⟩ w' → QQ .normal a' w') : wpListIn (fz ro) nn P all QQ os a w := by
 have := AHo (Ayu.vop (KP := fun _ _ => False)) (rest := []) (QQ := QQ) (ro := ro) (nn := nn) ht h hs hf hk (fun _ _ _ _ _ _ h => h.elim)
 rwa [List.append_nil] at this

theorem AU4 {op : Op} {so : SOp} (h : trV bz P op = some (.s so)) : trS P op = some so := by
 unfold trV at h
 split at h
 ·cases h
 ·obtain ⟨x, h1, h2⟩ := Option.map_eq_some_iff.1 h
  split at h2
  ·cases h2
  ·cases h2; exact h1
theorem ASS {op : Op} {f : FuncId} {xs : List Opd} (h : trV bz P op = some (.s (.call f xs))) : AEh P f = true ∧ ∃ (args : List Operand) (ts : Array TypeId), xs = args.map trO ∧ op = .call { callee := .value (.func f), args := args.toArray, argTypes := ts } := by
 replace h := AU4 h
 cases op
 case call c =>
  obtain ⟨callee, cargs, cts⟩ := c
  simp only [trS] at h
  split at h
  ·(repeat' split at h) <;> simp at h
  ·(repeat' split at h) <;> simp at h
  ·(repeat' split at h) <;> simp at h
  ·(repeat' split at h) <;> simp at h
  ·rename_i g args _
   split at h
   ·rename_i hgo
    split at h
    ·split at h
     ·simp at h
     ·simp only [Option.some.injEq, SOp.call.injEq] at h
      obtain ⟨rfl, rfl⟩ := h
      refine ⟨hgo, cargs.toList, cts, ?_, by simp⟩
      simp [*]
    ·simp only [Option.some.injEq, SOp.call.injEq] at h
     obtain ⟨rfl, rfl⟩ := h
     exact ⟨hgo, cargs.toList, cts, rfl, by simp⟩
   ·simp at h
  ·simp at h
  ·simp at h
  ·simp at h
 case next x b => cases b <;> simp [trS] at h
 all_goals (simp only [trS] at h; (repeat' split at h) <;> first | (simp at h; done) | skip)
theorem AVd {op : Op} {x : Opd} (h : trV bz P op = some (.s (.pan x))) : ∃ y, x = trO y ∧ op = .panic y := by
 replace h := AU4 h
 cases op
 case panic y => simp only [trS, Option.some.injEq, SOp.pan.injEq] at h; exact ⟨y, h.symm, rfl⟩
 case next x b => cases b <;> simp [trS] at h
 all_goals (simp only [trS] at h; (repeat' split at h) <;> first | (simp at h; done) | skip)
theorem ALF {β : Nat → Nat → Option (Nat × Nat)} {H : List Ob} {F : Nat → Prop} {w : World} {a : Act} {e : Env} {R : TV → List Ob → Prop} {RP : Value → List Ob → Prop} {o : Oper} {KK : Act → World → Prop} {Q : Exit → Act → World → Prop} (hs : Sim ⟨β, H, F⟩ w) (he : Ato ⟨β, H, F⟩ w e a) {f : FuncId} (hg : AEh P f = true) {args : List Operand} {ts : Array TypeId} (ho : o.op = .call { callee := .value (.func f), args := args.toArray, argTypes := ts })
  (ht : ∀ x ∈ args.map trO, At1 (x.ev e) = false) (h : ACS P f ((args.map trO).map (·.ev e)) H R RP)
  (hk : ∀ x H' β' F' w' v, R x H' → Sim ⟨β', H', F'⟩ w' → Atb ⟨β, H, F⟩ w ⟨β', H', F'⟩ w' → Rep ⟨β', H', F'⟩ w' x v → KK (a.put o.dst v) w')
  (hp : ∀ u H' β' F' w', RP u H' → Sim ⟨β', H', F'⟩ w' → Atb ⟨β, H, F⟩ w ⟨β', H', F'⟩ w' → Q (.panic [{ v := u, recovered := false }]) a w') : OW P o a w KK Q := by
 have hv := Ay4 he args fun x hx => ht _ (List.mem_map_of_mem hx)
 refine OW.of_wp (by rw [ho]; simp) ?_
 have := h β F w _ hs hv
 unfold Oper.wp
 simp only [execOp, ho, resolve, Act.eval, Deferred.ofValue, Sem.run_bind, Sem.run_pure, Result.andThen_ok, invoke, AwO hg]
 rw [Oper.upon_enter]
 have e1 : (args.map a.eval).toArray ++ #[] = (args.map a.eval).toArray := by simp
 refine Calls.mono (R := fun e w' => ∃ β' H' F', Sim ⟨β', H', F'⟩ w' ∧ Atb ⟨β, H, F⟩ w ⟨β', H', F'⟩ w' ∧ ((∃ v x, e = .returned v ∧ R x H' ∧ Rep ⟨β', H', F'⟩ w' x v) ∨ ∃ u, e = .panicked [{ v := u, recovered := false }] ∧ RP u H')) (by simpa using this) ?_
 rintro e' w' ⟨β', H', F', h1, h2, ⟨v, x, rfl, h3, h4⟩ | ⟨u, rfl, h3⟩⟩
 ·exact hk _ _ _ _ _ _ h3 h1 h2 h4
 ·exact hp _ _ _ _ _ h3 h1 h2
theorem Ayu.pvop {KP : Value → List Ob → Prop} : Ayu P (pvop P KP) KP := by
 intro β H F w a e K hs he bz op vo ht h o KK Q ho hn hk hp
 unfold Go.Proofs.YtingoaihnlhiaaaDoor.pvop at h
 split at h
 ·rename_i f xs
  obtain ⟨h1, h2⟩ := h
  obtain ⟨hgo, args, ts, rfl, hop⟩ := ASS ht
  exact ALF hs he hgo (ho.trans hop) h1 h2 hk hp
 ·rename_i x
  obtain ⟨y, rfl, hop⟩ := AVd ht
  split at h
  ·rename_i t v hx
   have hev : a.eval y = .iface t v := he.val hx
   refine OW.of_wp (by rw [ho]; exact hn) ?_
   unfold Oper.wp
   simp only [execOp, ho.trans hop, hev, Sem.run_bind]
   exact hp _ _ _ _ _ h hs (Atb.refl _ _)
  ·rename_i t v hx
   have hev : a.eval y = .iface t v := by
    have hr := he.rep (x := y) hx
    have h1 := hr.inv1 (by simp) (by simp) (by simp) (by simp) (by simp)
    rw [AsV] at h1
    obtain ⟨u, hu, vs, h2, rfl⟩ := h1
    rw [AsV] at h2
    obtain ⟨rfl, _⟩ := h2
    simpa [mkV] using hu
   refine OW.of_wp (by rw [ho]; exact hn) ?_
   unfold Oper.wp
   simp only [execOp, ho.trans hop, hev, Sem.run_bind]
   exact hp _ _ _ _ _ h hs (Atb.refl _ _)
  ·exact h.elim
 ·exact AGU hs he ht h o KK Q ho hn hk
theorem ALz {N : Nat} {D : List Deferred} {ro : Option Nat} {nn : Nat} {all : Array Oper} {os : List Oper} {l : List VO} (ht : trL bz P N all.toList os = some l) {K : Env → List Ob → Prop} {KP : Value → List Ob → Prop} {e : Env} {H : List Ob} {β : Nat → Nat → Option (Nat × Nat)} {F : Nat → Prop} {w : World} {a : Act} {QQ : Exit → Act → World → Prop}
  (h : AB6 P KP l K e H) (hs : Sim ⟨β, H, F⟩ w) (hf : Fr N D ⟨β, H, F⟩ w e a)
  (hk : ∀ e' H' β' F' w' a', K e' H' → Sim ⟨β', H', F'⟩ w' → Fr N D ⟨β', H', F'⟩ w' e' a' → Atb ⟨β, H, F⟩ w ⟨β', H', F'⟩ w' → QQ .normal a' w')
  (hp : ∀ u H' β' F' w' a', KP u H' → Sim ⟨β', H', F'⟩ w' → Fr N D ⟨β', H', F'⟩ w' (ALB l e) a' → Atb ⟨β, H, F⟩ w ⟨β', H', F'⟩ w' → QQ (.panic [{ v := u, recovered := false }]) a' w') : wpListIn (fz ro) nn P all QQ os a w := by
 have := AxO (Ayu.pvop (KP := KP)) (rest := []) (QQ := QQ) (ro := ro) (nn := nn) ht h hs hf hk fun u H' β' F' w' a' k1 k2 k3 k5 k4 => hp u H' β' F' w' a' k1 k2 (hf.drop (k4.mono hs) k3 ht k5) k4
 rwa [List.append_nil] at this

end sound
end Go.Proofs.YtingoaihnlhiaaaDoor

