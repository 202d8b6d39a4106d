import Derived.Test.YtfgljddikcghhaaDoorBaseA
import Derived.RangeFuncCalls
import Derived.RangeFuncSeq
import Derived.TacticsIn
import Derived.Deep.LoopGhost
import Derived.Scope
import Derived.Orders
import Derived.OrdersIn
namespace Go.Proofs.YtfgljddikcghhaaDoor
open Go.RowKit
variable [Globs]
set_option linter.unusedSectionVars false
set_option linter.unusedSimpArgs false
set_option linter.unusedVariables false
set_option autoImplicit false

/-- WHAT A CALL DOES, in the words of the machine of values. -/
def VCalls (P : Program) (f : FuncId) (args : List TV) (H : List Ob) (R : TV → List Ob → Prop) : Prop :=
 ∀ (β : Nat → Nat → Option (Nat × Nat)) (F : Nat → Prop) (w : World) (vs : List Value), Sim ⟨β, H, F⟩ w → RepL ⟨β, H, F⟩ w args vs →
  Calls P f vs.toArray w fun e w' => ∃ v x β' H' F', e = .returned v ∧ R x H' ∧ Sim ⟨β', H', F'⟩ w' ∧ Later ⟨β, H, F⟩ w ⟨β', H', F'⟩ w' ∧ Rep ⟨β', H', F'⟩ w' x v

theorem VCalls.mono {P : Program} {f : FuncId} {args : List TV} {H : List Ob} {R R' : TV → List Ob → Prop} (h : VCalls P f args H R) (hr : ∀ x H', R x H' → R' x H') : VCalls P f args H R' :=
 fun β F w vs hs hv => (h β F w vs hs hv).mono fun _ _ ⟨v, x, β', H', F', h1, h2, h3⟩ => ⟨v, x, β', H', F', h1, hr _ _ h2, h3⟩

/-- The same of a call that may end in a panic with a value. -/
def VCallsP (P : Program) (f : FuncId) (args : List TV) (H : List Ob) (R : TV → List Ob → Prop) (RP : Value → List Ob → Prop) : Prop :=
 ∀ (β : Nat → Nat → Option (Nat × Nat)) (F : Nat → Prop) (w : World) (vs : List Value), Sim ⟨β, H, F⟩ w → RepL ⟨β, H, F⟩ w args vs →
  Calls P f vs.toArray w fun e w' => ∃ β' H' F', Sim ⟨β', H', F'⟩ w' ∧ Later ⟨β, H, F⟩ w ⟨β', H', F'⟩ w' ∧ ((∃ v x, e = .returned v ∧ R x H' ∧ Rep ⟨β', H', F'⟩ w' x v) ∨ ∃ u, e = .panicked [{ v := u, recovered := false }] ∧ RP u H')
theorem VCallsP.mono {P : Program} {f : FuncId} {args : List TV} {H : List Ob} {R R' : TV → List Ob → Prop} {RP RP' : Value → List Ob → Prop} (h : VCallsP P f args H R RP) (hr : ∀ x H', R x H' → R' x H') (hp : ∀ u H', RP u H' → RP' u H') : VCallsP P f args H R' RP' :=
 fun β F w vs hs hv => (h β F w vs hs hv).mono fun _ _ ⟨β', H', F', h1, h2, h3⟩ => ⟨β', H', F', h1, h2, h3.imp (fun ⟨v, x, k1, k2, k3⟩ => ⟨v, x, k1, hr _ _ k2, k3⟩) fun ⟨u, k1, k2⟩ => ⟨u, k1, hp _ _ k2⟩⟩
theorem VCalls.mayP {P : Program} {f : FuncId} {args : List TV} {H : List Ob} {R : TV → List Ob → Prop} {RP : Value → List Ob → Prop} (h : VCalls P f args H R) : VCallsP P f args H R RP :=
 fun β F w vs hs hv => (h β F w vs hs hv).mono fun _ _ ⟨v, x, β', H', F', h1, h2, h3, h4, h5⟩ => ⟨β', H', F', h3, h4, .inl ⟨v, x, h1, h2, h5⟩⟩

/-- The fence of all, in a round or in none. -/
def fz (ro : Option Nat) : Fence := { Fence.wide with round := ro }
/-- Whether in a round or in none: the operation goes so. -/
def OW (P : Program) (o : Oper) (a : Act) (w : World) (KK : Act → World → Prop) (Q : Exit → Act → World → Prop) : Prop := ∀ (ro : Option Nat) (n : Nat), o.wpIn (fz ro) n P a w KK Q
theorem rowsIn_of {ro : Option Nat} {n : Nat} {P : Program} {row : String} {args : Array Value} {w : World} {R : Value → World → Prop} (h : Rows P row args w R) : RowsIn (fz ro) n P row args w R := by
 intro c cs _
 obtain ⟨v, w', r, s⟩ := h c cs
 exact ⟨v, w', r, (stepsIn_wide.2 s : StepsIn (Machine.fenced P Fence.wide) P _ _)⟩
theorem OW.of_wp {P : Program} {o : Oper} {a : Act} {w : World} {KK : Act → World → Prop} {Q : Exit → Act → World → Prop} (hd : ∀ c, o.op ≠ .defer c) (h : o.wp P a w KK Q) : OW P o a w KK Q := by
 intro ro n
 refine ⟨fun _ _ => trivial, ?_⟩
 rw [show (fz ro).round = ro from rfl, Oper.semAt_eq ro a.eval o hd]
 unfold Oper.wp at h
 generalize (execOp a.eval o).run P w = r at *
 cases r with
 | ok x w' =>
  cases x with
  | value v => exact h
  | skip => exact h
  | defer d => exact h
  | enter f args => exact ⟨fun h => by simp [fz, Fence.wide] at h, ((callsIn_wide (n := n - 1)).2 h : CallsIn Fence.wide (n - 1) P f args w' _)⟩
  | row r args => exact ⟨fun h => by simp [fz, Fence.wide] at h, rowsIn_of h⟩
  | _ => exact h.elim
 | halt x w' => cases x <;> first | exact h | exact h.elim

/-- WHAT A ROUND OF A LOOP DOES, called by the function that the loop goes over. -/
def VYield (P : Program) (id ver : Nat) (args : List TV) (H : List Ob) (R : TV → List Ob → Prop) : Prop :=
 ∀ (β : Nat → Nat → Option (Nat × Nat)) (F : Nat → Prop) (w : World) (vs : List Value) (b o : Nat), Sim ⟨β, H, F⟩ w → RepL ⟨β, H, F⟩ w args vs → β id ver = some (b, o) →
  ∀ n, YieldAt (fz none) n P b vs.toArray w fun e w' => ∃ v x β' H' F', e = .returned v ∧ R x H' ∧ Sim ⟨β', H', F'⟩ w' ∧ Later ⟨β, H, F⟩ w ⟨β', H', F'⟩ w' ∧ Rep ⟨β', H', F'⟩ w' x v

/-- A function of the program's own text. -/
def isGo (P : Program) (f : FuncId) : Bool := match P.funcs[f]? with
 | some fn => fn.body.isSome && !(fn.name == "runtime.NumGoroutine")
 | none => false

/-- The operations that make or write objects. -/
inductive SOp where
 | alloc (z : TV)
 | box (x : Opd)
 | bslice (k n : Nat) (z : TV) (ps : List (Nat × Opd))
 | store (sz : Nat) (x v : Opd)
 | mks (k bytes : Nat) (z : TV) (l c : Opd)
 | app (k bytes : Nat) (et : TypeId) (x y : Opd)
 | appS (et : TypeId) (x y : Opd)
 | s2b (x : Opd)
 | copy (k : Nat) (x y : Opd)
 | copyS (x y : Opd)
 | call (f : FuncId) (args : List Opd)
 | callv (x : Opd) (args : List Opd)
 /-- maps: made; a value for a key; the entry of a key, made if it is not there; a value for an entry -/
 | mkm (kk : MK) (h : Option Opd)
 | mupd (kk : MK) (m k x : Opd)
 | ment (kk : MK) (z : TV) (m k : Opd)
 | mest (m st x : Opd)
 /-- a new object; what type its block has is kept in mind -/
 | allocT (z : TV) (t : TypeId)
 | boxT (x : Opd) (t : TypeId)
 /-- a loop over a text begins; its next round -/
 | rngS (x : Opd)
 | nxtS (x : Opd)
 /-- strings.Builder's String -/
 | bstr (f : FuncId) (x : Opd)
 /-- a panic (told of in VmI: pvops) -/
 | pan (x : Opd)
 deriving Inhabited

/-- What strings.Builder's String does: the row of bytes is given away. -/
def BStr (P : Program) (f : FuncId) : Prop := ∀ (id ver j v cp : Nat) (p : List (Nat × Nat)) (x a : TV) (l : List UInt8) (H : List Ob) (K : TV → List Ob → Prop), H[id]? = some (.obj ver x) → getP p x = some (.agg [a, .os 1 j v [] 0 l.length cp]) → width a = 1 →
 H[j]? = some (.bld v byteTy l) → l.length ≤ 9223372036854775807 → K (.val (.string (str l))) (H.set j (.gone v)) → VCalls P f [.op id ver p] H K
/-- A builder's row: where it lies, what it holds. -/
def rowOf (H : List Ob) (x : TV) : Option (Nat × Nat × List UInt8) := match x with
 | .op id ver p => (match H[id]? with
  | some (.obj v y) => if v = ver then (match getP p y with
   | some (.agg [a, .os 1 j v2 [] 0 n cp]) => (match H[j]? with
    | some (.bld v3 t l) => if v3 = v2 ∧ t = byteTy ∧ n = l.length ∧ width a = 1 then some (j, v2, l) else none
    | _ => none)
   | _ => none) else none
  | _ => none)
 | _ => none
/-- What becomes of an object behind whose n elements from off on some are appended; how many it has. -/
def appO (o : Option Ob) (ver k : Nat) (et : TypeId) (off n : Nat) (ys : List TV) : Option Ob := match o with
 | some (.obj v (.arr _ k'' cs)) => if v = ver ∧ k'' = k then some (.obj (ver + 1) (.arr (n + ys.length) k ((cs.drop off).take n ++ ys))) else none
 | some (.bld v t l) => if v = ver ∧ k = 1 ∧ t = et ∧ off = 0 ∧ ys.all isByB = true then some (.bld (ver + 1) t (l.take n ++ ys.map unby)) else none
 | _ => none
def lenO : Option Ob → Nat
 | some (.obj _ (.arr _ _ cs)) => cs.length
 | some (.bld _ _ l) => l.length
 | _ => 0
/-- Appended to a row. -/
def appTo (k bytes : Nat) (et : TypeId) (x : TV) (ys : List TV) (H : List Ob) (K : TV → List Ob → Prop) : Prop := match x with
 | .val (.slice none 0 0) => (ys.length * bytes ≤ 140737488355328 ∧ ys.length ≤ 9223372036854775807) ∧ K (.os k H.length 1 [] 0 ys.length ys.length) (H ++ [.obj 1 (.arr ys.length k ys)])
 | .os k' id ver [] off n cp => k' = k ∧ (match appO H[id]? ver k et off n ys with
  | some o => (off + n ≤ lenO H[id]? ∧ (n + ys.length) * bytes ≤ 140737488355328 ∧ n + ys.length ≤ 9223372036854775807) ∧ K (.os k id (ver + 1) [] 0 (n + ys.length) (n + ys.length)) (H.set id o)
  | none => False)
 | _ => False

/-- Copied over a part of an array. -/
def copyTo (k : Nat) (x : TV) (ys : List TV) (H : List Ob) (K : TV → List Ob → Prop) : Prop := match x with
 | .os k' id ver p off n cp => k' = k ∧ (match H[id]? with
  | some (.obj v z) => v = ver ∧ (match getP p z with
   | some (.arr N k'' cs) => k'' = k ∧ off + n ≤ cs.length ∧ (match setP p z (.arr N k (cs.take off ++ (ys.take n ++ cs.drop (off + min ys.length n)))) with
    | some z' => K (.val (.int .i64 (min ys.length n : Nat))) (H.set id (.obj ver z'))
    | none => False)
   | _ => False)
  | _ => False)
 | _ => False

def sop (P : Program) (o : SOp) (e : Env) (H : List Ob) (K : TV → List Ob → Prop) : Prop := match o with
 | .pan _ => False
 | .alloc z => K (.op H.length 0 []) (H ++ [.obj 0 z])
 | .box x => lays (x.ev e) = true ∧ K (.op H.length 0 []) (H ++ [.obj 0 (x.ev e)])
 | .bslice k n z ps => (fillsOk e (List.replicate n k) ps ∧ fillsPure e ps ∧ n ≤ 1000) ∧ K (.os k H.length 0 [] 0 n n) (H ++ [.obj 0 (.arr n k (fills e (List.replicate n z) ps))])
 | .store sz x v => (lays (v.ev e) = true ∧ width (v.ev e) = sz) ∧ (match x.ev e with
  | .op id ver p => (match H[id]? with
   | some (.obj vr y) => vr = ver ∧ (match setP p y (v.ev e) with | some y' => K .any (H.set id (.obj ver y')) | none => False)
   | _ => False)
  | _ => False)
 | .mks k bytes z l c => match l.ev e, c.ev e with
  | .val (.int _ l), .val (.int _ c) => (0 ≤ l ∧ l ≤ c ∧ (bytes : Int) * c ≤ 281474976710656 ∧ c ≤ 9223372036854775807) ∧ K (.os k H.length 0 [] 0 l.toNat c.toNat) (H ++ [.obj 0 (.arr c.toNat k (List.replicate c.toNat z))])
  | _, _ => False
 | .app k bytes et x y => match elemsOf H k (y.ev e) with
  | some ys => appTo k bytes et (x.ev e) ys H K
  | none => False
 | .appS et x y => match y.ev e with
  | .val (.string s) => appTo 1 1 et (x.ev e) ((bl s).map by8) H K
  | _ => False
 | .copy k x y => match elemsOf H k (y.ev e) with
  | some ys => copyTo k (x.ev e) ys H K
  | none => False
 | .copyS x y => match y.ev e with
  | .val (.string s) => copyTo 1 (x.ev e) ((bl s).map by8) H K
  | _ => False
 | .s2b x => match x.ev e with
  | .val (.string s) => (bl s).length ≤ 9223372036854775807 ∧ K (.os 1 H.length 0 [] 0 (bl s).length (bl s).length) (H ++ [.obj 0 (.arr (bl s).length 1 ((bl s).map by8))])
  | _ => False
 | .call f args => (∀ x ∈ args, isTup (x.ev e) = false) ∧ VCalls P f (args.map (·.ev e)) H K
 | .callv x args => (∀ x ∈ args, isTup (x.ev e) = false) ∧ (match x.ev e with
  | .fn (.func f) first caps => isGo P f = true ∧ VCalls P f (first ++ args.map (·.ev e) ++ caps) H K
  | .val (.func (.func f) xs ys) => (xs.isEmpty && ys.isEmpty) = true ∧ isGo P f = true ∧ VCalls P f (args.map (·.ev e)) H K
  | .yl id ver => VYield P id ver (args.map (·.ev e)) H K
  | _ => False)
 | .mkm kk h => (match h with
  | none => True
  | some x => (match x.ev e with | .val (.int _ _) => True | _ => False)) ∧ K (.mp H.length 0) (H ++ [.mpo kk []])
 | .mupd kk m k x => match m.ev e, kBytes kk (k.ev e) with
  | .mp id 0, some kb => (match H[id]? with
   | some (.mpo kk' es) => (kk' = kk ∧ lays (x.ev e) = true) ∧ K .any (H.set id (.mpo kk (mput kb (x.ev e) es)))
   | _ => False)
  | _, _ => False
 | .ment kk z m k => match m.ev e, kBytes kk (k.ev e) with
  | .mp id 0, some kb => (match H[id]? with
   | some (.mpo kk' es) => kk' = kk ∧ K (.tup [(mget kb es).getD z, .val (.int .i64 (mpos kb es))]) (H.set id (.mpo kk (mput kb ((mget kb es).getD z) es)))
   | _ => False)
  | _, _ => False
 | .mest m st x => match m.ev e, st.ev e with
  | .mp id 0, .val (.int _ j) => (match H[id]? with
   | some (.mpo kk es) => (0 ≤ j ∧ lays (x.ev e) = true) ∧ (match es[j.toNat]? with
    | some (k, _) => K .any (H.set id (.mpo kk (es.set j.toNat (k, x.ev e))))
    | none => False)
   | _ => False)
  | _, _ => False
 | .allocT z t => K (.op H.length 0 []) (H ++ [.obj 0 z, .fact H.length 0 t (width z)])
 | .bstr f x => BStr P f ∧ (match rowOf H (x.ev e) with
  | some (j, v, l) => l.length ≤ 9223372036854775807 ∧ K (.val (.string (str l))) (H.set j (.gone v))
  | none => False)
 | .rngS x => match x.ev e with
  | .val (.string s) => K (.op H.length 0 []) (H ++ [.sit (bl s) 0])
  | _ => False
 | .nxtS x => match x.ev e with
  | .op id 0 [] => (match H[id]? with
   | some (.sit s pos) => if pos < s.length then K (.tup [.val (.bool true), .val (.int .i64 (pos : Int)), .val (.int .i32 ((Utf8.decode (str s) pos).1 : Int))]) (H.set id (.sit s (pos + (Utf8.decode (str s) pos).2))) else K (.tup [.val (.bool false)]) H
   | _ => False)
  | _ => False
 | .boxT x t => lays (x.ev e) = true ∧ K (.op H.length 0 []) (H ++ [.obj 0 (x.ev e), .fact H.length 0 t (width (x.ev e))])

def trS (P : Program) : Op → Option SOp
 | .alloc t => match P.info? t with
  | some i => (match i.zero with | some z => (zT P 400 t z.cells.toList).map fun z => if factTys.contains t then .allocT z t else .alloc z | none => none)
  | none => none
 | .box t x => some (if factTys.contains t then .boxT (trO x) t else .box (trO x))
 | .buildSlice t n ps => match sliceOf P t with
  | some (k, et) => (match P.info? et with
   | some i => (match i.zero with
    | some z => if z.cells.size = k ∧ k ≠ 0 ∧ n * k ≤ 16777216 then (zT P 400 et z.cells.toList).map fun z => .bslice k n z (ps.toList.map fun q => (q.1, trO q.2)) else none
    | none => none)
   | none => none)
  | none => none
 | .store t x v => (szOf P t).map fun sz => .store sz (trO x) (trO v)
 | .makeSlice t l c => match sliceOf P t with
  | some (k, et) => (match P.info? et with
   | some i => (match i.zero with
    | some z => if z.cells.size = k ∧ k ≠ 0 then (zT P 400 et z.cells.toList).map fun z => .mks k i.bytes z (trO l) (trO c) else none
    | none => none)
   | none => none)
  | none => none
 | .convert src dst x => if isStr P src && isU8s P dst then some (.s2b (trO x)) else none
 | .panic x => some (.pan (trO x))
 | .range t x => if isStr P t then some (.rngS (trO x)) else none
 | .next x true => some (.nxtS (trO x))
 | .makeMap t r => match P.underlying t with
  | some (.map kt _) => (keyK P kt).map fun kk => .mkm kk (r.map trO)
  | _ => none
 | .mapUpdate t m k x => match P.underlying t with
  | some (.map kt _) => (keyK P kt).map fun kk => .mupd kk (trO m) (trO k) (trO x)
  | _ => none
 | .mapEntry t m k => match mapOf P t with
  | some (_, kk, _, zx) => some (.ment kk zx (trO m) (trO k))
  | none => none
 | .entryStore t m st x => some (.mest (trO m) (trO st) (trO x))
 | .call c => match c.callee, c.args.toList, c.argTypes.toList with
  | .builtin .append, [x, y], [t, ty] => (match sliceOf P t with
   | some (k, et) => (match P.info? et with
    | some i => (match i.zero with
     | some z => if z.cells.size = k then (if isStr P ty then (if k = 1 ∧ i.bytes = 1 then some (.appS et (trO x) (trO y)) else none) else if (sliceOf P ty).isSome then some (.app k i.bytes et (trO x) (trO y)) else none) else none
     | none => none)
    | none => none)
   | none => none)
  | .builtin .copy, [x, y], [t, ty] => (match sliceOf P t with
   | some (k, _) => if isStr P ty then (if k = 1 then some (.copyS (trO x) (trO y)) else none) else if (sliceOf P ty).isSome then some (.copy k (trO x) (trO y)) else none
   | none => none)
  | .value (.func f), args, _ => if isGo P f then (match args with
   | [x] => if strFns.contains f then some (.bstr f (trO x)) else some (.call f [trO x])
   | args => some (.call f (args.map trO))) else none
  | .value (.tmp t), args, _ => some (.callv (.t t) (args.map trO))
  | _, _, _ => none
 | _ => none

section sound
variable {P : Program} {β : Nat → Nat → Option (Nat × Nat)} {H : List Ob} {F : Nat → Prop} {w : World} {a : Act} {e : Env} {K : TV → List Ob → Prop}

/-- The operation does what K asks. -/
def Does (P : Program) (β : Nat → Nat → Option (Nat × Nat)) (H : List Ob) (F : Nat → Prop) (w : World) (a : Act) (K : TV → List Ob → Prop) (op : Op) : Prop :=
 ∀ (o : Oper) (KK : Act → World → Prop) (Q : Exit → Act → World → Prop), o.op = op → (∀ c, op ≠ .defer c) →
  (∀ x H' β' F' w' v, K x H' → Sim ⟨β', H', F'⟩ w' → Later ⟨β, H, F⟩ w ⟨β', H', F'⟩ w' → Rep ⟨β', H', F'⟩ w' x v → KK (a.put o.dst v) w') → OW P o a w KK Q

theorem Yields.does (hs : Sim ⟨β, H, F⟩ w) {op : Op} (h : ∀ ty, Yields P ⟨β, H, F⟩ w a (fun x => K x H) op ty) : Does P β H F w a K op := by
 intro o KK Q ho hnd hk
 refine OW.of_wp (by rw [ho]; exact hnd) ?_
 obtain ⟨x, v, hr, hx, hK⟩ := h o.type o ho rfl
 unfold Oper.wp
 rw [hr]
 exact hk x H β F w v hK hs (Later.refl _ _) hx

theorem Does.mk {op : Op} {s : Oper → Sem Value} {x : TV} {H' : List Ob} {β' : Nat → Nat → Option (Nat × Nat)} {F' : Nat → Prop} {w' : World} {v : Value} (he : ∀ o : Oper, o.op = op → execOp a.eval o = (do pure (.value (← s o)))) (hr : ∀ o, (s o).run P w = .ok v w')
  (hs : Sim ⟨β', H', F'⟩ w') (hl : Later ⟨β, H, F⟩ w ⟨β', H', F'⟩ w') (hx : Rep ⟨β', H', F'⟩ w' x v) (hk : K x H') : Does P β H F w a K op := by
 intro o KK Q ho hnd hkk
 refine OW.of_wp (by rw [ho]; exact hnd) ?_
 unfold Oper.wp
 rw [he o ho, Sem.run_bind, hr o]
 exact hkk x H' β' F' w' v hk hs hl hx

theorem bare0 (n : Nat) : Bare n (0, 0) := fun o _ h => by simp at h
theorem has_new (β' : Nat → Nat → Option (Nat × Nat)) (H : List Ob) (o : Ob) (F : Nat → Prop) (v : Nat) (hv : v ≤ o.ver) : Ctx.has ⟨β', H ++ [o], F⟩ H.length v := ⟨o, by simp, hv⟩

theorem d_alloc (hs : Sim ⟨β, H, F⟩ w) {t : TypeId} {i : TypeInfo} {z : Value} {x : TV} (h1 : P.info? t = some i) (h2 : i.zero = some z) (h3 : zT P 400 t z.cells.toList = some x) (h : sop P (.alloc x) e H K) : Does P β H F w a K (.alloc t) := by
 obtain ⟨hz, _⟩ := zT_spec (c := ⟨β, H, F⟩) (w := w) h3
 obtain ⟨k1, k2⟩ := hs.newObj (post := []) hz t (0, 0) (bare0 _)
 refine Does.mk (s := fun _ => Instr.alloc t true (.tuple #[])) (v := .pointer (some ⟨w.heap.size, 0, none⟩)) (fun o ho => by simp only [execOp, ho]) (fun o => ?_) k1 k2 (Rep.mk_op (has_new _ _ _ _ _ (Nat.le_refl _)) upd_same rfl) h
 simp [Instr.alloc, zeroValue, typeInfo, h1, h2, newVar, newRow, newObj, Sem.run]

/-- A new block's type is kept in mind. -/
theorem Sim.newObjT (hs : Sim ⟨β, H, F⟩ w) {x : TV} {vs : List Value} (hr : RepC ⟨β, H, F⟩ w x vs) (t : TypeId) : ∃ β', Sim ⟨β', H ++ [.obj 0 x, .fact H.length 0 t (width x)], F⟩ (w.alloc (.cells (vs ++ []).toArray t (0, 0))) ∧
  Later ⟨β, H, F⟩ w ⟨β', H ++ [.obj 0 x, .fact H.length 0 t (width x)], F⟩ (w.alloc (.cells (vs ++ []).toArray t (0, 0))) ∧ β' H.length 0 = some (w.heap.size, 0) := by
 obtain ⟨k1, k2⟩ := hs.newObj (post := []) hr t (0, 0) (bare0 _)
 have hnew := getElem?_alloc_new w (.cells (vs ++ []).toArray t (0, 0))
 obtain ⟨q1, q2⟩ := k1.addFact (i := H.length) (v := 0) (t := t) (m := width x) (has_new _ _ _ _ _ (Nat.le_refl _)) (fun b o e => by
  rw [upd_same] at e; cases e
  exact ⟨rfl, by unfold World.shape?; rw [hnew, ← hr.length]; simp⟩)
 rw [List.append_assoc] at q1 q2
 exact ⟨_, q1, k2.trans q2, by rw [upd_other (by simp)]; exact upd_same⟩
theorem has_new2 (β' : Nat → Nat → Option (Nat × Nat)) (H : List Ob) (o o' : Ob) (F : Nat → Prop) (v : Nat) (hv : v ≤ o.ver) : Ctx.has ⟨β', H ++ [o, o'], F⟩ H.length v := ⟨o, by simp, hv⟩
theorem d_allocT (hs : Sim ⟨β, H, F⟩ w) {t : TypeId} {i : TypeInfo} {z : Value} {x : TV} (h1 : P.info? t = some i) (h2 : i.zero = some z) (h3 : zT P 400 t z.cells.toList = some x) (h : sop P (.allocT x t) e H K) : Does P β H F w a K (.alloc t) := by
 obtain ⟨hz, _⟩ := zT_spec (c := ⟨β, H, F⟩) (w := w) h3
 obtain ⟨β', k1, k2, k3⟩ := hs.newObjT hz t
 refine Does.mk (s := fun _ => Instr.alloc t true (.tuple #[])) (v := .pointer (some ⟨w.heap.size, 0, none⟩)) (fun o ho => by simp only [execOp, ho]) (fun o => ?_) k1 k2 (Rep.mk_op (has_new2 _ _ _ _ _ _ (Nat.le_refl _)) k3 rfl) h
 simp [Instr.alloc, zeroValue, typeInfo, h1, h2, newVar, newRow, newObj, Sem.run]
theorem d_boxT (hs : Sim ⟨β, H, F⟩ w) (he : EnvOk ⟨β, H, F⟩ w e a) {t : TypeId} {x : Operand} (h : sop P (.boxT (trO x) t) e H K) : Does P β H F w a K (.box t x) := by
 simp only [sop] at h
 obtain ⟨hl, h⟩ := h
 obtain ⟨β', k1, k2, k3⟩ := hs.newObjT ((he.ev x).cells hl) t
 refine Does.mk (s := fun _ => Instr.box t (a.eval x)) (v := .pointer (some ⟨w.heap.size, 0, none⟩)) (fun o ho => by simp only [execOp, ho]) (fun o => ?_) k1 k2 (Rep.mk_op (has_new2 _ _ _ _ _ _ (Nat.le_refl _)) k3 rfl) h
 simp [Instr.box, newVar, newRow, newObj, Sem.run]

theorem d_box (hs : Sim ⟨β, H, F⟩ w) (he : EnvOk ⟨β, H, F⟩ w e a) {t : TypeId} {x : Operand} (h : sop P (.box (trO x)) e H K) : Does P β H F w a K (.box t x) := by
 simp only [sop] at h
 obtain ⟨hl, h⟩ := h
 obtain ⟨k1, k2⟩ := hs.newObj (post := []) ((he.ev x).cells hl) t (0, 0) (bare0 _)
 refine Does.mk (s := fun _ => Instr.box t (a.eval x)) (v := .pointer (some ⟨w.heap.size, 0, none⟩)) (fun o ho => by simp only [execOp, ho]) (fun o => ?_) k1 k2 (Rep.mk_op (has_new _ _ _ _ _ (Nat.le_refl _)) upd_same rfl) h
 simp [Instr.box, newVar, newRow, newObj, Sem.run]

theorem made_rep {c : Ctx} {w : World} {x : TV} {z : Array Value} (hz : RepC c w x z.toList) (h0 : z.size ≠ 0) : ∀ n, RepCs c w (List.replicate n x) (madeCells z (n * z.size)).toList
 | 0 => by simp [madeCells, RepCs]
 | n + 1 => by
  rw [List.replicate_succ, RepCs]
  refine ⟨z.toList, (madeCells z (n * z.size)).toList, ?_, hz, made_rep hz h0 n⟩
  unfold madeCells
  apply List.ext_getElem?
  intro j
  simp only [Array.toList_map, Array.toList_range, List.getElem?_map]
  have hp : 0 < z.size := Nat.pos_of_ne_zero h0
  by_cases hj : j < z.size
  ·rw [List.getElem?_append_left (by simpa using hj), List.getElem?_range (by rw [Nat.add_mul]; omega)]
   simp [Nat.mod_eq_of_lt hj, hj]
  ·rw [List.getElem?_append_right (by simp; omega)]
   simp only [Array.length_toList, List.getElem?_map]
   by_cases hj2 : j < (n + 1) * z.size
   ·rw [List.getElem?_range hj2, List.getElem?_range (by rw [Nat.add_mul] at hj2; omega)]
    simp only [Option.map_some]
    rw [show j = j - z.size + z.size from by omega, Nat.add_mod_right]
    simp
   ·rw [List.getElem?_eq_none (by simp; omega), List.getElem?_eq_none (by rw [Nat.add_mul] at hj2; simp; omega)]

theorem rep_new_row {x : TV} {vs post : List Value} {t : TypeId} {fr : Nat × Nat} {n N k cap cp : Nat} (hv : (⟨w.heap.size, 0, none⟩ : Addr) = ⟨w.heap.size, 0, none⟩) (hcap : cap ≤ 9223372036854775807) (hn : n ≤ cap) (hcp : cp ≤ cap) (hroom : cap * k ≤ (vs ++ post).length) {w0 : World} (hw0 : w0.heap.size = w.heap.size) :
  Rep ⟨upd β H.length 0 (some (w.heap.size, 0)), H ++ [.obj 0 x], F⟩ (w0.alloc (.cells (vs ++ post).toArray t fr)) (.os k H.length 0 [] 0 n cp) (.slice (some ⟨w.heap.size, 0, none⟩) n cap) := by
 refine Rep.of1 ?_ (by simp) (by simp)
 rw [RepC]
 refine ⟨has_new _ _ _ _ _ (Nat.le_refl _), .inr ⟨w.heap.size, 0, cap, t, (vs ++ post).length, upd_same, by simp [span], hn, hcap, ?_, by simpa [span] using hroom, hcp⟩⟩
 rw [← hw0]
 have := getElem?_alloc_new w0 (.cells (vs ++ post).toArray t fr)
 simp only [World.shape?, this, List.size_toArray]

theorem d_mks (hs : Sim ⟨β, H, F⟩ w) (he : EnvOk ⟨β, H, F⟩ w e a) {t et : TypeId} {k : Nat} {i : TypeInfo} {z : Value} {x : TV} (h0 : sliceOf P t = some (k, et)) (h1 : P.info? et = some i) (h2 : i.zero = some z) (h3 : z.cells.size = k ∧ k ≠ 0) (h4 : zT P 400 et z.cells.toList = some x)
  {l cp : Operand} (h : sop P (.mks k i.bytes x (trO l) (trO cp)) e H K) : Does P β H F w a K (.makeSlice t l cp) := by
 obtain ⟨g1, g2⟩ := sliceOf_spec h0
 obtain ⟨hz, hzp⟩ := zT_spec (c := Ctx.bare ⟨β, H, F⟩) (w := w) h4
 have hik : i.size = k := by unfold szOf at g2; rw [h1] at g2; simpa using g2
 simp only [sop] at h
 split at h
 ·rename_i kl l' kc c' hl hc
  obtain ⟨⟨b1, b2, b3, b4⟩, h⟩ := h
  have hm := made_rep hz (by rw [h3.1]; exact h3.2) c'.toNat
  have hx : width x = k := by rw [← hz.length]; simpa using h3.1
  have hrow : RepC ⟨β, H, F⟩ w (.arr c'.toNat k (List.replicate c'.toNat x)) (madeCells z.cells (c'.toNat * z.cells.size)).toList := by
   rw [RepC]; exact ⟨by simp, fun y hy => by rw [List.eq_of_mem_replicate hy]; exact hx, hm⟩
  obtain ⟨k1, k2⟩ := hs.newObj (post := []) hrow et (0, 0) (bare0 _)
  have hr := run_make (P := P) w t et i z g1 h1 h2 kl kc l' c' b1 b2 b3 b4
  rw [List.append_nil, Array.toArray_toList] at k1 k2
  refine Does.mk (s := fun _ => Instr.makeSlice t (a.eval l) (a.eval cp)) (fun o ho => by simp only [execOp, ho]) (fun o => by rw [he.val hl, he.val hc, hr, hik, ← h3.1]) k1 k2 ?_ h
  have := rep_new_row (β := β) (H := H) (F := F) (w := w) (x := .arr c'.toNat k (List.replicate c'.toNat x)) (vs := (madeCells z.cells (c'.toNat * z.cells.size)).toList) (post := []) (t := et) (fr := (0, 0)) (n := l'.toNat) (N := 0) (k := k) (cap := c'.toNat) (cp := c'.toNat) rfl (by omega) (by omega) (Nat.le_refl _) (by simp [size_madeCells, h3.1]) (w0 := w) rfl
  rwa [List.append_nil, Array.toArray_toList] at this
 ·exact h.elim

theorem d_s2b (hs : Sim ⟨β, H, F⟩ w) (he : EnvOk ⟨β, H, F⟩ w e a) {src dst : TypeId} (h1 : (isStr P src && isU8s P dst) = true) {x : Operand} (h : sop P (.s2b (trO x)) e H K) : Does P β H F w a K (.convert src dst x) := by
 rw [Bool.and_eq_true] at h1
 have g1 := isStr_spec h1.1
 obtain ⟨et, g2, g3⟩ := isU8s_spec h1.2
 simp only [sop] at h
 split at h
 ·rename_i s hx
  obtain ⟨hlen, h⟩ := h
  have hsz : (bl s).length = s.size := by simp [bl]
  have hr := run_bytes_of_string (P := P) w src dst et s g1 g2 g3
  rw [show Value.slice (some ⟨w.heap.size, 0, none⟩) s.size (grownCap w s.size 0 et) = .slice (some ⟨w.heap.size, 0, none⟩) (bl s).length (grownCap w s.size 0 et) from by rw [hsz]] at hr
  have hge := grownCap_ge w s.size 0 et
  have hcm := grownCap_le_maxLen w s.size 0 et (by unfold maxLen; omega)
  have hrow : RepC ⟨β, H, F⟩ w.drew (.arr (bl s).length 1 ((bl s).map by8)) ((bl s).map fun b => Value.int .u8 b.toNat) := by
   rw [RepC]; exact ⟨by simp, by simp [width], repCs_bytes _⟩
  have hbr : bytesRow s (grownCap w s.size 0 et) = (((bl s).map fun b => Value.int .u8 b.toNat) ++ List.replicate (grownCap w s.size 0 et - s.size) (Value.int .u8 0)).toArray := by
   apply Array.ext'; simp [bytesRow, bl]
  rw [hbr] at hr
  generalize grownCap w s.size 0 et = cap at *
  generalize hrp : List.replicate (cap - s.size) (Value.int .u8 0) = post at *
  have hpl : post.length = cap - s.size := by rw [← hrp]; simp
  obtain ⟨k1, k2⟩ := (hs.heap (w' := w.drew) rfl).newObj (post := post) hrow et ((((bl s).map fun b => Value.int .u8 b.toNat) ++ post).toArray.size, (((bl s).map fun b => Value.int .u8 b.toNat) ++ post).toArray.size + 1) (fun o ho hh => by
   simp only [List.size_toArray] at hh; omega)
  refine Does.mk (s := fun _ => convert src dst (a.eval x)) (fun o ho => by simp only [execOp, ho]) (fun o => by rw [he.val hx, hr]) k1 ((Later.heap (w := w) (w' := w.drew) rfl rfl rfl rfl).trans k2) ?_ h
  refine rep_new_row (β := β) (H := H) (F := F) (w := w) (N := 0) rfl (by unfold maxLen at hcm; omega) (by omega) (by omega) ?_ (w0 := w.drew) rfl
  simp only [List.length_append, List.length_map, hpl, hsz]; omega
 ·exact h.elim

theorem d_rngS (hs : Sim ⟨β, H, F⟩ w) (he : EnvOk ⟨β, H, F⟩ w e a) {t : TypeId} (h1 : isStr P t = true) {x : Operand} (h : sop P (.rngS (trO x)) e H K) : Does P β H F w a K (.range t x) := by
 have g1 := isStr_spec h1
 simp only [sop] at h
 split at h
 ·rename_i s hx
  have es : (⟨(bl s).toArray⟩ : ByteArray) = s := by simp [bl]
  obtain ⟨k1, k2⟩ := hs.new (.sit (bl s) 0) rfl (some (w.heap.size, 0)) (w' := w.alloc (.stringIter s 0)) (fun b off e => by cases e; exact Nat.le_refl _) rfl rfl rfl (by simp) (fun b hb => alloc_old w _ hb) (fun hm => ⟨w.heap.size, upd_same, by rw [es]; exact getElem?_alloc_new w _⟩)
  refine Does.mk (s := fun _ => Instr.range t (a.eval x)) (v := .pointer (some ⟨w.heap.size, 0, none⟩)) (fun o ho => by simp only [execOp, ho]) (fun o => ?_) k1 k2 (Rep.mk_op (has_new _ _ _ _ _ (Nat.le_refl _)) upd_same rfl) h
  rw [he.val hx]
  simp [Instr.range, run_underlying g1, newObj, Sem.run]
 ·exact h.elim
theorem d_nxtS (hs : Sim ⟨β, H, F⟩ w) (he : EnvOk ⟨β, H, F⟩ w e a) {x : Operand} (h : sop P (.nxtS (trO x)) e H K) : Does P β H F w a K (.next x true) := by
 simp only [sop] at h
 split at h
 ·rename_i id hx
  split at h
  ·rename_i s pos hid
   obtain ⟨b, hb, hh⟩ := hs.ob id _ hid
   have hb' : β id 0 = some (b, 0) := hb
   obtain ⟨_, b2, o, hb2, hv⟩ := (he.rep hx).op
   have hb2' : β id 0 = some (b2, o) := hb2
   rw [hb'] at hb2'; cases hb2'
   have hv' : a.eval x = .pointer (some ⟨b, 0, none⟩) := hv
   have hsz : (⟨s.toArray⟩ : ByteArray).size = s.length := by show s.toArray.size = _; simp
   by_cases hp : pos < s.length
   ·rw [if_pos hp] at h
    have hlt := (Array.getElem?_eq_some_iff.1 hh).1
    obtain ⟨k1, k2⟩ := hs.turn (β' := β) (o' := .sit s (pos + (Utf8.decode (str s) pos).2)) (w' := { w with heap := w.heap.setIfInBounds b (.stringIter ⟨s.toArray⟩ (pos + (Utf8.decode (str s) pos).2)) }) hid rfl rfl (Nat.le_refl _) (fun _ _ _ => rfl) (fun b1 off e => .inl ⟨off, e⟩) rfl rfl rfl (by simp)
     (fun b1 hb1 => by
      by_cases e : b1 = b
      ·subst e
       have h1 : (w.heap.setIfInBounds b1 (.stringIter ⟨s.toArray⟩ (pos + (Utf8.decode (str s) pos).2)))[b1]? = some (.stringIter ⟨s.toArray⟩ (pos + (Utf8.decode (str s) pos).2)) := by simp [hlt]
       simp only [World.shape?, h1, hh]
      ·simp [World.shape?, Array.getElem?_setIfInBounds_ne (Ne.symm e)])
     (fun b1 hb1 hne => by
      have e : b1 ≠ b := fun e => hne 0 (e ▸ hb')
      simp [Array.getElem?_setIfInBounds_ne (Ne.symm e)])
     (fun hm => ⟨b, hb', by simp [hlt]⟩)
    refine Does.mk (s := fun o => Instr.next (a.eval x) true o.type) (v := .tuple #[.bool true, .int .i64 pos, .int .i32 (Utf8.decode (str s) pos).1]) (fun o ho => by simp only [execOp, ho]) (fun o => ?_) k1 k2 ?_ h
    ·rw [hv']
     simp only [Instr.next, getObj, setObj, Sem.run_bind, Sem.run, hh, Result.andThen, hsz, hp, if_true]
     simp [goInt, str]
    ·exact .inr ⟨_, [.bool true, .int .i64 pos, .int .i32 (Utf8.decode (str s) pos).1], rfl, rfl, by
      rw [RepL.cons]; refine ⟨_, _, rfl, .inr (.inl rfl), ?_⟩
      rw [RepL.cons]; refine ⟨_, _, rfl, .inr (.inl rfl), ?_⟩
      rw [RepL.cons]; exact ⟨_, _, rfl, .inr (.inl rfl), by rw [RepL.nil]⟩⟩
   ·rw [if_neg hp] at h
    refine Does.mk (s := fun o => Instr.next (a.eval x) true o.type) (v := .tuple #[.bool false]) (fun o ho => by simp only [execOp, ho]) (fun o => ?_) hs (Later.refl _ _) ?_ h
    ·rw [hv']
     simp [Instr.next, getObj, Sem.run, hh, hsz, hp]
    ·exact .inr ⟨_, [.bool false], rfl, rfl, by
      rw [RepL.cons]; exact ⟨_, _, rfl, .inr (.inl rfl), by rw [RepL.nil]⟩⟩
  ·exact h.elim
 ·exact h.elim

theorem run_store_cells {t : TypeId} {sz b o : Nat} {v : Value} (h2 : szOf P t = some sz) (hv : v.cells.size = sz) (h1 : ∀ u ∈ v.cells.toList, u.oneCell' = true) (ht : w.there b o v.cells.toList.length) :
  (Instr.storeAt t (.pointer (some ⟨b, o, none⟩)) v).run P w = .ok () (w.setCells b o v.cells.toList) := by
 have := run_storeCells_cells (P := P) b o v.cells.toList 0 w (fun j hj => by simpa using (ht j hj).1) (fun j hj => by simpa using (ht j hj).2) h1
 simp only [Nat.add_zero] at this
 simp [Instr.storeAt, Instr.sureAddr, storeVar, run_szOf h2, hv, this]

theorem d_store (hs : Sim ⟨β, H, F⟩ w) (he : EnvOk ⟨β, H, F⟩ w e a) {t : TypeId} {sz : Nat} (h2 : szOf P t = some sz) {x y : Operand} (h : sop P (.store sz (trO x) (trO y)) e H K) : Does P β H F w a K (.store t x y) := by
 simp only [sop] at h
 obtain ⟨⟨hl, hw⟩, h⟩ := h
 have hc := (he.ev y).cells hl
 split at h
 ·rename_i id ver p hx
  split at h
  ·rename_i vr z hid
   obtain ⟨rfl, h⟩ := h
   split at h
   ·rename_i z' hz
    obtain ⟨g1, b, o, hb, hv⟩ := (he.rep hx).op
    obtain ⟨k1, k2, k3⟩ := hs.store hid hb hz hc
    have hsz : (a.eval y).cells.size = sz := by rw [← hw, ← hc.length]; simp
    intro op KK Q hop hnd hk
    refine OW.of_wp (by rw [hop]; exact hnd) ?_
    have hr := run_store_cells (P := P) h2 hsz hc.one k3
    unfold Oper.wp
    simp only [execOp, hop, hv, Sem.run_bind, hr, Result.andThen_ok, Sem.run_pure]
    exact hk _ _ _ _ _ _ h k1 k2 Rep.any
   ·exact h.elim
  ·exact h.elim
 ·exact h.elim

/-- A value that can be laid is what its cells say. -/
theorem rep_mkV {c : Ctx} {w : World} {x : TV} {v : Value} (h : Rep c w x v) (hl : lays x = true) : v = mkV x v.cells.toList := by
 rcases h with (h | h | ⟨us, h3, h4⟩) | ⟨xs, vs, h, _⟩
 ·rw [h] at hl; simp [lays] at hl
 ·subst h
  simp only [lays] at hl
  rw [cells_one hl]; rfl
 ·have hc : v.cells.toList = us := by
   rw [h4]
   cases x with
   | agg cs => simp [mkV, Value.cells]
   | arr n k cs => simp [mkV, Value.cells]
   | tup cs => rw [RepC] at h3; exact h3.elim
   | _ =>
    have hlen := h3.length
    simp only [width] at hlen
    obtain ⟨u, rfl⟩ := List.length_eq_one_iff.1 hlen
    simp [mkV, cells_one (h3.one u (by simp))]
  rw [hc]; exact h4
 ·rw [h] at hl; simp [lays] at hl
/-- A map of one's own is changed. -/
theorem Sim.setMap (hs : Sim ⟨β, H, F⟩ w) {id : Nat} {kk kk' : MK} {es es' : List (List UInt8 × TV)} {b : Nat} {ms ms' : Array MapEntry} {cl cl' : Nat} (hid : H[id]? = some (.mpo kk es)) (hb : β id 0 = some (b, 0)) (hh : w.heap[b]? = some (.map ms cl))
  (he : EntsOk ⟨β, H, F⟩ w kk' es' ms'.toList) (hc : cl' = ms'.size) (hbn : ms'.toList.map (·.born) = List.range ms'.size) :
  Sim ⟨β, H.set id (.mpo kk' es'), F⟩ { w with heap := w.heap.setIfInBounds b (.map ms' cl') } ∧ Later ⟨β, H, F⟩ w ⟨β, H.set id (.mpo kk' es'), F⟩ { w with heap := w.heap.setIfInBounds b (.map ms' cl') } := by
 have hlt := (Array.getElem?_eq_some_iff.1 hh).1
 have hother : ∀ b', b' ≠ b → (w.heap.setIfInBounds b (.map ms' cl'))[b']? = w.heap[b']? := fun b' h => by rw [Array.getElem?_setIfInBounds_ne (Ne.symm h)]
 refine hs.turn hid rfl rfl (Nat.le_refl _) (fun i v _ => rfl) (fun b2 off e => .inl ⟨off, e⟩) rfl rfl rfl (by simp) (fun b2 _ => ?_) (fun b2 _ hne => hother b2 (fun e => hne 0 (e ▸ hb))) (fun hm => ⟨b, ms', cl', hb, by simp [hlt], EntsOk.mono hm he, hc, hbn⟩)
 by_cases e : b2 = b
 ·subst e
  have h1 : (w.heap.setIfInBounds b2 (.map ms' cl'))[b2]? = some (.map ms' cl') := by simp [hlt]
  simp only [World.shape?, h1, hh]
 ·simp [World.shape?, hother b2 e]
theorem d_mkm (hs : Sim ⟨β, H, F⟩ w) (he : EnvOk ⟨β, H, F⟩ w e a) {t kt et : TypeId} {kk : MK} (h1 : P.underlying t = some (.map kt et)) {r : Option Operand} (h : sop P (.mkm kk (r.map trO)) e H K) : Does P β H F w a K (.makeMap t r) := by
 simp only [sop] at h
 obtain ⟨hr, h⟩ := h
 obtain ⟨k1, k2⟩ := hs.new (.mpo kk []) rfl (some (w.heap.size, 0)) (w' := w.alloc (.map #[] 0)) (fun b off e => by cases e; exact Nat.le_refl _) rfl rfl rfl (by simp) (fun b hb => alloc_old w _ hb) (fun hm => ⟨w.heap.size, #[], 0, upd_same, getElem?_alloc_new w _, by rw [EntsOk], rfl, rfl⟩)
 refine Does.mk (s := fun _ => Instr.makeMap t (r.map a.eval)) (v := .map (some w.heap.size)) (fun o ho => by simp only [execOp, ho]) (fun o => ?_) k1 k2 (Rep.of1 ?_ (by simp) (by simp)) h
 ·cases r with
  | none => simp [Instr.makeMap]
  | some x =>
   simp only [Option.map_some] at hr
   split at hr
   ·rename_i q n hx
    have hv := he.val hx
    simp [Instr.makeMap, run_underlying h1, hv, asInt, asIntOf]
   ·exact hr.elim
 ·rw [RepC]; exact ⟨has_new _ _ _ _ _ (Nat.le_refl _), _, _, upd_same, rfl⟩
theorem born_modify {ms : Array MapEntry} {j : Nat} {f : MapEntry → MapEntry} (hf : ∀ m, (f m).born = m.born) : (ms.modify j f).toList.map (·.born) = ms.toList.map (·.born) := by
 rw [Array.toList_modify]
 apply List.ext_getElem?
 intro i
 simp only [List.getElem?_map, List.getElem?_modify]
 cases ms.toList[i]? with
 | none => rfl
 | some m => by_cases hij : j = i <;> simp [hij, hf]
theorem d_mupd (hs : Sim ⟨β, H, F⟩ w) (he : EnvOk ⟨β, H, F⟩ w e a) {t kt et : TypeId} {kk : MK} (h1 : P.underlying t = some (.map kt et)) (h2 : keyK P kt = some kk) {m k x : Operand} (h : sop P (.mupd kk (trO m) (trO k) (trO x)) e H K) : Does P β H F w a K (.mapUpdate t m k x) := by
 simp only [sop] at h
 split at h
 ·rename_i id kb hm hkb
  split at h
  ·rename_i kk' es hid
   obtain ⟨⟨rfl, hl⟩, h⟩ := h
   obtain ⟨hk1, hk2⟩ := kBytes_spec hkb (he.ev k)
   obtain ⟨_, b, o, hb, hv⟩ := (he.rep hm).mp
   obtain ⟨b', ms, cl, k1, k2, k3, k4, k5⟩ := hs.ob id _ hid
   have k1' : β id 0 = some (b', 0) := k1
   have hb' : β id 0 = some (b, o) := hb
   rw [hb'] at k1'
   obtain ⟨rfl, rfl⟩ : b = b' ∧ o = 0 := by simpa using k1'
   have hck := run_checkKey (P := P) (w := w) h2 hk2 false
   have hfk := run_findKey (P := P) (w := w) h2 hk2 k3
   have hx := (he.ev x).cells hl
   have hxv := rep_mkV (he.ev x) hl
   intro op KK Q hop hnd hk
   refine OW.of_wp (by rw [hop]; exact hnd) ?_
   unfold Oper.wp
   rcases lkp_get (k := kb) 0 k3 with ⟨g1, g2⟩ | ⟨j, v, y, m', g1, g2, g3, g4, g5, g6, g7⟩
   ·obtain ⟨s1, s2⟩ := hs.setMap (ms' := ms.push { key := kVal kk' kb, val := a.eval x, born := cl }) (cl' := cl + 1) (es' := mput kb ((trO x).ev e) es) (kk' := kk') hid hb' k2 (by
     rw [Array.toList_push]; exact ents_push hk2 rfl hx hxv k3 g2) (by rw [k4]; simp) (by rw [Array.toList_push, List.map_append, k5, k4]; simp [List.range_succ])
    have hr : (Instr.mapUpdate t (a.eval m) (a.eval k) (a.eval x)).run P w = .ok () { w with heap := w.heap.setIfInBounds b (.map (ms.push { key := kVal kk' kb, val := a.eval x, born := cl }) (cl + 1)) } := by
     rw [hv, hk1]
     simp only [Instr.mapUpdate, Sem.run_bind, run_underlying h1, Result.andThen_ok, run_getMap k2, hck, hfk, g1]
     rw [run_setMap _ k2]
    simp only [execOp, hop, Sem.run_bind, hr, Result.andThen_ok, Sem.run_pure]
    exact hk _ _ _ _ _ _ h s1 s2 Rep.any
   ·rw [Nat.zero_add] at g1
    obtain ⟨s1, s2⟩ := hs.setMap (ms' := ms.modify j fun e => { e with key := kVal kk' kb, val := a.eval x }) (cl' := cl) (es' := mput kb ((trO x).ev e) es) (kk' := kk') hid hb' k2 (by
     rw [Array.toList_modify]; exact ents_set hk2 hx hxv 0 j v k3 (by rw [g1, Nat.zero_add])) (by rw [k4]; simp) (by refine (born_modify ?_).trans ?_ <;> first | (intro m; rfl) | (rw [k5]; simp))
    have hold : ((ms[j]?).map (·.key)).getD (kVal kk' kb) = kVal kk' kb := by
     rw [← Array.getElem?_toList, g3]; exact g5
    have hr : (Instr.mapUpdate t (a.eval m) (a.eval k) (a.eval x)).run P w = .ok () { w with heap := w.heap.setIfInBounds b (.map (ms.modify j fun e => { e with key := kVal kk' kb, val := a.eval x }) cl) } := by
     rw [hv, hk1]
     simp only [Instr.mapUpdate, Sem.run_bind, run_underlying h1, Result.andThen_ok, run_getMap k2, hck, hfk, g1, hold, Instr.keyThatStays, sameBits_key, if_true, Sem.run_pure]
     rw [run_setMap _ k2]
    simp only [execOp, hop, Sem.run_bind, hr, Result.andThen_ok, Sem.run_pure]
    exact hk _ _ _ _ _ _ h s1 s2 Rep.any
  ·exact h.elim
 ·exact h.elim
theorem d_ment (hs : Sim ⟨β, H, F⟩ w) (he : EnvOk ⟨β, H, F⟩ w e a) {t kt : TypeId} {kk : MK} {z : Value} {zx : TV} (h1 : mapOf P t = some (kt, kk, z, zx)) {m k : Operand} (h : sop P (.ment kk zx (trO m) (trO k)) e H K) : Does P β H F w a K (.mapEntry t m k) := by
 obtain ⟨et, u1, u2, u3, u4, u5⟩ := mapOf_spec h1
 simp only [sop] at h
 split at h
 ·rename_i id kb hm hkb
  split at h
  ·rename_i kk' es hid
   obtain ⟨rfl, h⟩ := h
   obtain ⟨hk1, hk2⟩ := kBytes_spec hkb (he.ev k)
   obtain ⟨_, b, o, hb, hv⟩ := (he.rep hm).mp
   obtain ⟨b', ms, cl, k1, k2, k3, k4, k5⟩ := hs.ob id _ hid
   have k1' : β id 0 = some (b', 0) := k1
   have hb' : β id 0 = some (b, o) := hb
   rw [hb'] at k1'
   obtain ⟨rfl, rfl⟩ : b = b' ∧ o = 0 := by simpa using k1'
   have hck := run_checkKey (P := P) (w := w) u2 hk2 false
   have hfk := run_findKey (P := P) (w := w) u2 hk2 k3
   obtain ⟨p1, p2⟩ := lkp_pos (k := kb) 0 k3
   have hlen := ents_len k3
   have mk : ∀ {x : TV} {v : Value} {w' : World} {H' : List Ob}, (Instr.mapEntry t (a.eval m) (a.eval k)).run P w = .ok (.tuple #[v, goInt (mpos kb es)]) w' → Sim ⟨β, H', F⟩ w' → Later ⟨β, H, F⟩ w ⟨β, H', F⟩ w' → RepC ⟨β, H', F⟩ w' x v.cells.toList → v = mkV x v.cells.toList → K (.tup [x, .val (.int .i64 (mpos kb es))]) H' → Does P β H F w a K (.mapEntry t m k) := by
    intro x v w' H' hr s1 s2 hx hxv hK
    refine Does.mk (s := fun _ => Instr.mapEntry t (a.eval m) (a.eval k)) (fun o ho => by simp only [execOp, ho]) (fun o => hr) s1 s2 ?_ hK
    refine .inr ⟨_, [v, goInt (mpos kb es)], rfl, rfl, ?_⟩
    rw [RepL.cons]; refine ⟨v, [goInt (mpos kb es)], rfl, .inr (.inr ⟨_, hx, hxv⟩), ?_⟩
    rw [RepL.cons]; refine ⟨goInt (mpos kb es), [], rfl, .inr (.inl rfl), ?_⟩
    rw [RepL.nil]
   rcases lkp_get (k := kb) 0 k3 with ⟨g1, g2⟩ | ⟨j, v, y, m', g1, g2, g3, g4, g5, g6, g7⟩
   ·rw [g2] at h
    obtain ⟨s1, s2⟩ := hs.setMap (ms' := ms.push { key := kVal kk' kb, val := z, born := cl }) (cl' := cl + 1) (es' := mput kb zx es) (kk' := kk') hid hb' k2 (by
     rw [Array.toList_push]; exact ents_push hk2 rfl (u4 _ _) u5 k3 g2) (by rw [k4]; simp) (by rw [Array.toList_push, List.map_append, k5, k4]; simp [List.range_succ])
    refine mk (v := z) (x := zx) ?_ s1 s2 (u4 _ _) u5 h
    have hcl : cl = mpos kb es := by rw [p2 g2, ← hlen, k4]; simp
    rw [hv, hk1]
    simp only [Instr.mapEntry, Sem.run_bind, run_underlying u1, Result.andThen_ok, run_getMap k2, hck, hfk, g1, u3]
    rw [run_setMap _ k2, ← hcl]; rfl
   ·rw [g2] at h
    rw [Nat.zero_add] at g1
    have hjp : j = mpos kb es := by have := p1 j v (by rw [g1]); omega
    obtain ⟨s1, s2⟩ := hs.setMap (ms' := ms.modify j fun e => { e with key := kVal kk' kb }) (cl' := cl) (es' := mput kb y es) (kk' := kk') hid hb' k2 (by
     rw [Array.toList_modify]
     have := ents_set hk2 g6 g7 0 j v k3 (by rw [g1, Nat.zero_add])
     have e1 : (ms.toList.modify j fun e => { e with key := kVal kk' kb, val := v }) = ms.toList.modify j fun e => { e with key := kVal kk' kb } := by
      apply List.ext_getElem?
      intro i
      simp only [List.getElem?_modify]
      by_cases hij : j = i
      ·subst hij; rw [g3]; simp [g4]
      ·simp [hij]
     rwa [e1] at this) (by rw [k4]; simp) (by refine (born_modify ?_).trans ?_ <;> first | (intro m; rfl) | (rw [k5]; simp))
    have hold : ((ms[j]?).map (·.key)).getD (kVal kk' kb) = kVal kk' kb := by
     rw [← Array.getElem?_toList, g3]; exact g5
    have hborn : ((ms[j]?).map (fun x => (x.born : Int))).getD 0 = (mpos kb es : Int) := by
     have hjl : j < ms.size := by
      have := (List.getElem?_eq_some_iff.1 g3).1; simpa using this
     have := congrArg (·[j]?) k5
     simp only [List.getElem?_map, List.getElem?_range hjl] at this
     have h9 : (ms[j]?).map (fun x => (x.born : Int)) = some (j : Int) := by
      rw [← Array.getElem?_toList]
      cases hq : ms.toList[j]? with
      | none => rw [hq] at this; cases this
      | some q => rw [hq] at this; simp only [Option.map_some, Option.some.injEq] at this ⊢; omega
     rw [h9, hjp]; rfl
    refine mk (v := v) (x := y) ?_ s1 s2 (RepC.mono (s2.mono hs) g6) g7 h
    rw [hv, hk1]
    simp only [Instr.mapEntry, Sem.run_bind, run_underlying u1, Result.andThen_ok, run_getMap k2, hck, hfk, g1, hold, Instr.keyThatStays, sameBits_key, if_true, Sem.run_pure]
    rw [run_setMap _ k2, Result.andThen_ok, hborn]
  ·exact h.elim
 ·exact h.elim
theorem d_mest (hs : Sim ⟨β, H, F⟩ w) (he : EnvOk ⟨β, H, F⟩ w e a) {t : TypeId} {m st x : Operand} (h : sop P (.mest (trO m) (trO st) (trO x)) e H K) : Does P β H F w a K (.entryStore t m st x) := by
 simp only [sop] at h
 split at h
 ·rename_i id q j hm hst
  split at h
  ·rename_i kk es hid
   obtain ⟨⟨h0, hl⟩, h⟩ := h
   split at h
   ·rename_i kb y hj
    obtain ⟨_, b, o, hb, hv⟩ := (he.rep hm).mp
    obtain ⟨b', ms, cl, k1, k2, k3, k4, k5⟩ := hs.ob id _ hid
    have k1' : β id 0 = some (b', 0) := k1
    have hb' : β id 0 = some (b, o) := hb
    rw [hb'] at k1'
    obtain ⟨rfl, rfl⟩ : b = b' ∧ o = 0 := by simpa using k1'
    have hx := (he.ev x).cells hl
    have hxv := rep_mkV (he.ev x) hl
    have hjl : j.toNat < ms.size := by
     have := (List.getElem?_eq_some_iff.1 hj).1
     rw [← ents_len k3] at this; simpa using this
    obtain ⟨s1, s2⟩ := hs.setMap (ms' := ms.modify j.toNat fun e => { e with val := a.eval x }) (cl' := cl) (es' := es.set j.toNat (kb, (trO x).ev e)) (kk' := kk) hid hb' k2 (by
     rw [Array.toList_modify]; exact ents_at hx hxv j.toNat k3 hj) (by rw [k4]; simp) (by refine (born_modify ?_).trans ?_ <;> first | (intro m; rfl) | (rw [k5]; simp))
    have hfi : ms.findIdx? (fun e => (e.born : Int) == j) = some j.toNat := by
     have hb2 : ∀ i (hi : i < ms.size), ms[i].born = i := by
      intro i hi
      have := congrArg (·[i]?) k5
      simp only [List.getElem?_map, List.getElem?_range hi] at this
      rw [Array.getElem?_toList, Array.getElem?_eq_getElem hi] at this
      simpa using this
     rw [Array.findIdx?_eq_some_iff_getElem]
     refine ⟨hjl, ?_, fun i hi => ?_⟩
     ·rw [hb2 _ hjl]; simp; omega
     ·rw [hb2 i (by omega)]; simp; omega
    intro op KK Q hop hnd hk
    refine OW.of_wp (by rw [hop]; exact hnd) ?_
    unfold Oper.wp
    have hr : (Instr.entryStore t (a.eval m) (a.eval st) (a.eval x)).run P w = .ok () { w with heap := w.heap.setIfInBounds b (.map (ms.modify j.toNat fun e => { e with val := a.eval x }) cl) } := by
     rw [hv, he.val hst]
     simp only [Instr.entryStore, Sem.run_bind, Result.andThen_ok, run_getMap k2, asInt, asIntOf, Sem.run_pure, hfi]
     rw [run_setMap _ k2]
    simp only [execOp, hop, Sem.run_bind, hr, Result.andThen_ok, Sem.run_pure]
    exact hk _ _ _ _ _ _ h s1 s2 Rep.any
   ·exact h.elim
  ·exact h.elim
 ·exact h.elim
theorem app_sound (hs : Sim ⟨β, H, F⟩ w) {x : TV} {v : Value} (hx : Rep ⟨β, H, F⟩ w x v) {t tx ty et : TypeId} {k : Nat} {i : TypeInfo} {z : Value} (h0 : sliceOf P t = some (k, et)) (h1 : P.info? et = some i) (h2 : i.zero = some z) (h3 : z.cells.size = k)
  {y : Value} {ys : List TV} {us : List Value} (hy : RepCs (Ctx.bare ⟨β, H, F⟩) w ys us) (hyk : ∀ y ∈ ys, width y = k) (hsrc : Src P k tx y ys.length us w) (h : appTo k i.bytes et x ys H K) :
  ∃ v' w' β' H' x', (Builtin.append_ #[t, tx] ty #[v, y]).run P w = .ok v' w' ∧ Sim ⟨β', H', F⟩ w' ∧ Later ⟨β, H, F⟩ w ⟨β', H', F⟩ w' ∧ Rep ⟨β', H', F⟩ w' x' v' ∧ K x' H' := by
 obtain ⟨g1, g2⟩ := sliceOf_spec h0
 have hik : i.size = k := by unfold szOf at g2; rw [h1] at g2; simpa using g2
 unfold appTo at h
 split at h
 ·obtain ⟨⟨b1, b2⟩, h⟩ := h
  rw [Rep.val] at hx; subst hx
  obtain ⟨k1, k2⟩ := hs.newNone (x := .arr 0 k []) (by rw [RepC]; exact ⟨rfl, by simp, by rw [RepCs]⟩)
  have hm := Mono.toBare (β := β) (F := F) (w := w) [] (upd β H.length 0 none)
  obtain ⟨v', w', β', r1, r2, r3, r4, _⟩ := k1.append (P := P) (id := H.length) (ver := 0) (off := 0) (n := 0) (N := 0) (k := k) (cs := []) (by simp) (by simp) (v := .slice none 0 0) (cp := 0)
   (by rw [RepC]; exact ⟨has_new _ _ _ _ _ (Nat.le_refl _), .inl ⟨rfl, none, rfl, rfl, fun _ h => by cases h⟩⟩) g1 h1 h2 (by rw [h3, hik]) hik (RepCs.mono hm hy) hyk hsrc (ty := ty) (by simpa using b1) (by simpa using b2)
  simp only [Nat.zero_add, List.drop_nil, List.take_nil, List.nil_append] at r2 r3 r4
  have hset : (H ++ [Ob.obj 0 (.arr 0 k [])]).set H.length (.obj 1 (.arr ys.length k ys)) = H ++ [.obj 1 (.arr ys.length k ys)] := by simp
  rw [hset] at r2 r3 r4
  exact ⟨v', w', β', _, _, r1, r2, k2.trans r3, Rep.of1 r4 (by simp) (by simp), h⟩
 ·rename_i k' id ver off n cp
  obtain ⟨rfl, h⟩ := h
  split at h
  ·rename_i ob hob
   obtain ⟨⟨b1, b2, b3⟩, h⟩ := h
   unfold appO at hob
   split at hob
   ·rename_i vr N k'' cs hid
    split at hob
    ·rename_i hc
     obtain ⟨rfl, rfl⟩ := hc
     cases hob
     rw [hid] at b1
     obtain ⟨v', w', β', r1, r2, r3, r4, _⟩ := hs.append (P := P) (ty := ty) hid b1 hx.os g1 h1 h2 (by rw [h3, hik]) hik hy hyk hsrc b2 b3
     exact ⟨v', w', β', _, _, r1, r2, r3, Rep.of1 r4 (by simp) (by simp), h⟩
    ·cases hob
   ·rename_i vr t' l hid
    split at hob
    ·rename_i hc
     obtain ⟨e1, e2, e3, e4, hby⟩ := hc
     subst e1; subst e2; subst e3; subst e4
     cases hob
     rw [hid] at b1
     have b1' : 0 + n ≤ l.length := b1
     have hlt : id < H.length := (List.getElem?_eq_some_iff.1 hid).1
     have hob := hs.ob id _ hid
     have hik1 : i.size = 1 := hik
     have h31 : z.cells.size = 1 := h3
     obtain ⟨s1, s2⟩ := hs.view (o' := .obj vr (.arr l.length 1 (l.map by8))) hid rfl rfl rfl (fun hm => by
      rcases hob with ⟨q1, q2⟩ | ⟨b, post, fr, q1, q2, q3⟩
      ·exact .inl ⟨q1, by rw [q2, RepC]; exact ⟨rfl, by simp, by rw [List.map_nil, RepCs]⟩⟩
      ·refine .inr ⟨b, 0, [], _, post, t', fr, q1, q2, q3, rfl, ?_⟩
       rw [RepC]; exact ⟨by simp, by simp [width], repCs_bytes l⟩)
     have hid1 : (H.set id (Ob.obj vr (.arr l.length 1 (l.map by8))))[id]? = some (.obj vr (.arr l.length 1 (l.map by8))) := by simp [hlt]
     obtain ⟨v', w', β', r1, r2, r3, r4, r5⟩ := s1.append (P := P) (ty := ty) hid1 (by rw [List.length_map]; exact b1') (Rep.mono (s2.mono hs) hx).os g1 h1 h2 (by rw [h31, hik1]) hik1 hy hyk hsrc b2 b3
     rw [List.set_set] at r2 r3 r4
     have hlt2 : id < (H.set id (Ob.obj (vr + 1) (.arr (n + ys.length) 1 (((l.map by8).drop 0).take n ++ ys)))).length := by simpa using hlt
     have hid2 : (H.set id (Ob.obj (vr + 1) (.arr (n + ys.length) 1 (((l.map by8).drop 0).take n ++ ys))))[id]? = some (.obj (vr + 1) (.arr (n + ys.length) 1 (((l.map by8).drop 0).take n ++ ys))) := by simp [hlt]
     have hisby : ∀ y ∈ ((l.map by8).drop 0).take n ++ ys, isBy y := by
      intro y hy'
      rcases List.mem_append.1 hy' with hy' | hy'
      ·rw [List.drop_zero] at hy'
       obtain ⟨b, _, rfl⟩ := List.mem_map.1 (List.mem_of_mem_take hy'); exact isBy_by8 b
      ·exact isByB_is (List.all_eq_true.1 hby y hy')
     have hunby : (((l.map by8).drop 0).take n ++ ys).map unby = l.take n ++ ys.map unby := by
      rw [List.drop_zero, List.map_append, ← List.map_take, unby_all]
     have hob2 := r2.ob id _ hid2
     obtain ⟨z1, z2⟩ := r2.view (o' := .bld (vr + 1) t' (l.take n ++ ys.map unby)) hid2 rfl rfl rfl (fun hm => by
      rcases hob2 with ⟨q1, q2⟩ | ⟨b, off, pre, vs, post, t1, fr, q1, q2, q3, q4, q5⟩
      ·refine .inl ⟨q1, ?_⟩
       rw [RepC] at q2
       have hb := bytes_of hisby q2.2.2
       rw [hunby] at hb
       simpa using hb.symm
      ·rw [RepC] at q5
       have hb := bytes_of hisby q5.2.2
       rw [hunby] at hb
       have hsh : w'.shape? b = some (t1, (pre ++ vs ++ post).length) := by simp [World.shape?, q2]
       have hoff : off = 0 ∧ t1 = t' := by
        rcases r5 b off q1 with ⟨p1, m, p2⟩ | p1
        ·rw [hsh] at p2; cases p2; exact ⟨p1, rfl⟩
        ·have p2 := p1 rfl
         rcases hob with ⟨o1, _⟩ | ⟨b', post', fr', o1, o2, o3⟩
         ·have o1' : β id vr = none := o1
          rw [o1'] at p2; cases p2
         ·have o1' : β id vr = some (b', 0) := o1
          rw [o1'] at p2; cases p2
          have hbl : b < w.heap.size := (Array.getElem?_eq_some_iff.1 o2).1
          have := r3.shape b hbl
          rw [hsh] at this
          simp only [World.shape?, o2, Option.some.injEq, Prod.mk.injEq] at this
          exact ⟨rfl, this.1⟩
       obtain ⟨rfl, rfl⟩ := hoff
       have hp : pre = [] := List.length_eq_zero_iff.1 q4
       subst hp
       rw [hb] at q2 q3
       exact .inr ⟨b, post, fr, q1, q2, q3⟩)
     rw [List.set_set] at z1 z2
     have hr4 := Rep.mono (z2.mono r2) (Rep.of1 r4 (by simp) (by simp))
     exact ⟨v', w', β', _, _, r1, z1, (s2.trans r3).trans z2, hr4, h⟩
    ·cases hob
   ·cases hob
  ·exact h.elim
 ·exact h.elim

theorem d_app (hs : Sim ⟨β, H, F⟩ w) (he : EnvOk ⟨β, H, F⟩ w e a) {t tx et : TypeId} {k : Nat} {i : TypeInfo} {z : Value} (h0 : sliceOf P t = some (k, et)) (h1 : P.info? et = some i) (h2 : i.zero = some z) (h3 : z.cells.size = k) (h4 : (sliceOf P tx).isSome = true)
  {x y : Operand} (h : sop P (.app k i.bytes et (trO x) (trO y)) e H K) : Does P β H F w a K (.call { callee := .builtin .append, args := [x, y].toArray, argTypes := [t, tx].toArray }) := by
 obtain ⟨⟨kx, etx⟩, h4⟩ := Option.isSome_iff_exists.1 h4
 have g4 := (sliceOf_spec h4).1
 simp only [sop] at h
 split at h
 ·rename_i ys hys
  obtain ⟨hyk, us, hus, hrd⟩ := elemsOf_spec hs (he.ev y) hys
  have hsrc := hrd.src hus.one g4
  intro o KK Q ho hnd hk
  refine OW.of_wp (by rw [ho]; exact hnd) ?_
  obtain ⟨v', w', β', H', x', r1, r2, r3, r4, r5⟩ := app_sound (ty := o.type) hs (he.ev x) h0 h1 h2 h3 hus hyk hsrc h
  unfold Oper.wp
  simp only [execOp, ho, resolve, invoke, builtin, Sem.run_bind, Sem.run_pure, Result.andThen_ok, List.map_toArray, List.map_cons, List.map_nil, r1]
  exact hk _ _ _ _ _ _ r5 r2 r3 r4
 ·exact h.elim

theorem d_appS (hs : Sim ⟨β, H, F⟩ w) (he : EnvOk ⟨β, H, F⟩ w e a) {t tx et : TypeId} {i : TypeInfo} {z : Value} (h0 : sliceOf P t = some (1, et)) (h1 : P.info? et = some i) (h2 : i.zero = some z) (h3 : z.cells.size = 1) (hb : i.bytes = 1) (h4 : isStr P tx = true)
  {x y : Operand} (h : sop P (.appS et (trO x) (trO y)) e H K) : Does P β H F w a K (.call { callee := .builtin .append, args := [x, y].toArray, argTypes := [t, tx].toArray }) := by
 have g4 := isStr_spec h4
 simp only [sop] at h
 split at h
 ·rename_i s hy
  have hsrc := Src.ofString (P := P) w g4 s
  have hlen : ((bl s).map by8).length = s.size := by simp [bl]
  rw [← hlen] at hsrc
  intro o KK Q ho hnd hk
  refine OW.of_wp (by rw [ho]; exact hnd) ?_
  obtain ⟨v', w', β', H', x', r1, r2, r3, r4, r5⟩ := app_sound (ty := o.type) hs (he.ev x) h0 h1 h2 h3 (repCs_bytes (bl s)) (by simp [width]) hsrc (by rw [hb]; exact h)
  unfold Oper.wp
  rw [← he.val hy] at r1
  simp only [execOp, ho, resolve, invoke, builtin, Sem.run_bind, Sem.run_pure, Result.andThen_ok, List.map_toArray, List.map_cons, List.map_nil, r1]
  exact hk _ _ _ _ _ _ r5 r2 r3 r4
 ·exact h.elim

theorem setCell_self {w : World} {a : Addr} {v : Value} (h : w.cell? a = some v) : w.setCell a v = w := by
 have hb := World.block_lt_of_cell? w a h
 have hh : (w.setCell a v).heap = w.heap := by
  unfold World.cell? at h
  split at h
  ·rename_i c t fr hc
   split at h
   ·cases h
   ·rename_i hsp
    apply Array.ext_getElem?
    intro i
    by_cases hi : i = a.block
    ·subst hi
     simp only [World.setCell, Array.getElem?_modify, if_true, hc, Option.map_some]
     rw [if_neg hsp]
     congr 2
     apply Array.ext_getElem?
     intro j
     rw [Array.getElem?_setIfInBounds]
     split
     ·rename_i hj; subst hj
      split
      ·exact h.symm
      ·rename_i hlt; rw [Array.getElem?_eq_none (by omega)]
     ·rfl
    ·exact Below.heap_setCell _ _ _ _ hi
  ·cases h
 cases w
 simp only [World.setCell] at hh ⊢
 simp only [hh]
theorem setCells_self {b : Nat} : ∀ {vs : List Value} {off : Nat} {w : World}, CellsAt w b off vs → w.setCells b off vs = w
 | [], off, w, h => rfl
 | v :: vs, off, w, h => by
  have h0 := h 0 v rfl
  rw [World.setCells, setCell_self (by simpa using h0)]
  exact setCells_self fun j u hj => by
   have := h (j + 1) u (by simpa using hj)
   rw [show off + 1 + j = off + (j + 1) from by omega]; exact this
theorem setCells_append (b : Nat) : ∀ (xs ys : List Value) (off : Nat) (w : World), w.setCells b off (xs ++ ys) = (w.setCells b off xs).setCells b (off + xs.length) ys
 | [], ys, off, w => by simp [World.setCells]
 | x :: xs, ys, off, w => by
  rw [List.cons_append, World.setCells, World.setCells, setCells_append b xs ys (off + 1), List.length_cons]
  congr 1; omega
theorem cellsAt_setCells {w : World} {b off o2 : Nat} {us vs : List Value} (h : CellsAt w b off us) (hd : o2 + vs.length ≤ off) : CellsAt (w.setCells b o2 vs) b off us := by
 intro j u hj
 rw [World.cell?_setCells_out b vs o2 w ⟨b, off + j, none⟩ (fun _ _ => .inr (by show o2 + vs.length ≤ off + j; omega))]
 exact h j u hj

theorem copy_sound (hs : Sim ⟨β, H, F⟩ w) {x : TV} {v : Value} (hx : Rep ⟨β, H, F⟩ w x v) {t tx ty et : TypeId} {k : Nat} (h0 : sliceOf P t = some (k, et))
  {y : Value} {ys : List TV} {us : List Value} (hy : RepCs (Ctx.bare ⟨β, H, F⟩) w ys us) (hyk : ∀ y ∈ ys, width y = k) (hlen : (Builtin.lenOf y).run P w = .ok ys.length w)
  (hfc : ∀ n, n ≤ ys.length → (Builtin.firstCells k n y).run P w = .ok (us.take (n * k)).toArray w) (h : copyTo k x ys H K) :
  ∃ v' w' β' H' x', (Builtin.copy_ #[t, tx] ty #[v, y]).run P w = .ok v' w' ∧ Sim ⟨β', H', F⟩ w' ∧ Later ⟨β, H, F⟩ w ⟨β', H', F⟩ w' ∧ Rep ⟨β', H', F⟩ w' x' v' ∧ K x' H' := by
 obtain ⟨g1, g2⟩ := sliceOf_spec h0
 unfold copyTo at h
 split at h
 ·rename_i k' id ver p off n cp
  obtain ⟨rfl, h⟩ := h
  split at h
  ·rename_i vr z hid
   obtain ⟨rfl, h⟩ := h
   split at h
   ·rename_i N k'' cs hg
    obtain ⟨rfl, hb, h⟩ := h
    split at h
    ·rename_i z' hz
     have hr := hx.os
     rw [RepC] at hr
     obtain ⟨q1, hr⟩ := hr
     have hrun : ∀ (bs : Option Addr) (cap : Nat) (w2 : World), v = .slice bs n cap → (∀ vs : List Value, vs = us.take (Nat.min ys.length n * k'') → (match bs with | some ad => (storeCells ad vs).run P w = .ok () w2 | none => w2 = w)) →
       (Builtin.copy_ #[t, tx] ty #[v, y]).run P w = .ok (.int .i64 (min ys.length n : Nat)) w2 := by
      intro bs cap w2 hv hst
      subst hv
      have h1 := hfc (Nat.min ys.length n) (Nat.min_le_left _ _)
      have h2 := hst _ rfl
      cases bs with
      | none =>
       subst h2
       simp [Builtin.copy_, run_underlying g1, run_szOf g2, hlen, h1, goInt]
      | some ad =>
       simp [Builtin.copy_, run_underlying g1, run_szOf g2, hlen, h1, h2, goInt]
     rcases hr with ⟨rfl, ad, hv, _⟩ | ⟨b, o, cap, t', m', hbo, hv, h3, h4, h5, h6⟩
     ·-- nothing is copied
      have hv' : v = .slice ad 0 0 := by simpa using hv
      have hz2 : RepC ⟨β, H, F⟩ w z' (match hs.ob id _ hid with | _ => []) ∨ True := .inr trivial
      -- the object stays as it is
      have hsame : cs.take off ++ (ys.take 0 ++ cs.drop (off + min ys.length 0)) = cs := by simp
      rw [hsame] at hz
      have hobj : ∀ us', RepC ⟨β, H, F⟩ w z us' → RepC ⟨β, H, F⟩ w z' us' := fun us' hu => by
       obtain ⟨a1, m1, b1, e1, e2, e3⟩ := getP_spec hu hg
       have hr2 := e3
       rw [RepC] at hr2
       obtain ⟨a2, m2, b2, f1, f2, f3, f4, _⟩ := setP_spec hu hz e3
       have e4 : a1 = a2 := by
        have := congrArg (List.take a1.length) (e1.symm.trans f1)
        rw [List.append_assoc, List.append_assoc, List.take_left] at this
        rw [this, List.take_left' (by omega)]
       subst e4
       have e5 := e1.symm.trans f1
       rw [List.append_assoc, List.append_assoc] at e5
       have e6 := List.append_cancel_left e5
       have e7 : m1 = m2 := by
        have := congrArg (List.take m1.length) e6
        rw [List.take_left] at this
        rw [this, List.take_left' (by omega)]
       subst e7
       have e8 := List.append_cancel_left e6
       subst e8
       rw [e1]; exact f4
      have hid' : id < H.length := (List.getElem?_eq_some_iff.1 hid).1
      obtain ⟨k1, k2⟩ := hs.turn (o' := .obj vr z') (w' := w) (β' := β) hid rfl rfl (Nat.le_refl _) (fun _ _ _ => rfl) (fun b off e => .inl ⟨off, e⟩) rfl rfl rfl (Nat.le_refl _) (fun _ _ => rfl) (fun _ _ _ => rfl) (fun hm => by
       rcases hs.ob id _ hid with ⟨r0, r1⟩ | ⟨b, off, pre, vs, post, t, fr, r0, r1, r2, r3, r4⟩
       ·exact .inl ⟨r0, RepC.mono hm (hobj _ r1)⟩
       ·exact .inr ⟨b, off, pre, vs, post, t, fr, r0, r1, r2, r3, RepC.mono hm (hobj _ r4)⟩)
      refine ⟨_, w, β, _, _, hrun ad 0 w hv' (fun vs hvs => ?_), k1, k2, Rep.of_val, h⟩
      have : vs = [] := by rw [hvs]; simp
      subst this
      cases ad <;> rfl
     ·have hv' : v = .slice (some ⟨b, o + span p + off * k'', none⟩) n cap := by simpa using hv
      obtain ⟨cells, hcr, hca⟩ := part_at hs hid hbo hg
      have hcr0 := hcr
      rw [RepC] at hcr
      obtain ⟨e1, e2, hcr⟩ := hcr
      -- the array's cells, cut
      have hcut : cs = cs.take off ++ ((cs.drop off).take (min ys.length n) ++ cs.drop (off + min ys.length n)) := by
       rw [show cs.drop (off + min ys.length n) = (cs.drop off).drop (min ys.length n) from by rw [List.drop_drop], List.take_append_drop, List.take_append_drop]
      rw [hcut] at hcr
      obtain ⟨ca, cm, rfl, c1, c2⟩ := RepCs.split hcr
      obtain ⟨cb, cc, rfl, c3, c4⟩ := RepCs.split c2
      have hyt : RepCs (Ctx.bare ⟨β, H, F⟩) w (ys.take n) (us.take (min ys.length n * k'')) := by
       have hys : ys = ys.take n ++ ys.drop n := (List.take_append_drop _ _).symm
       rw [hys] at hy
       obtain ⟨u1, u2, hu12, d1, d2⟩ := RepCs.split hy
       have hl1 : u1.length = min ys.length n * k'' := by rw [d1.length, widths_all (fun y hy => hyk y (List.mem_of_mem_take hy)), List.length_take, Nat.min_comm]
       rw [hu12, ← hl1, List.take_left]; exact d1
      have hcal : ca.length = off * k'' := by rw [c1.length, widths_all (fun y hy => e2 y (List.mem_of_mem_take hy)), List.length_take]; congr 1; omega
      have hcbl : cb.length = min ys.length n * k'' := by rw [c3.length, widths_all (fun y hy => e2 y (List.mem_of_mem_drop (List.mem_of_mem_take hy))), List.length_take, List.length_drop]; congr 1; omega
      have hul : (us.take (min ys.length n * k'')).length = min ys.length n * k'' := by rw [hyt.length, widths_all (fun y hy => hyk y (List.mem_of_mem_take hy)), List.length_take, Nat.min_comm]
      have hnewr : RepC ⟨β, H, F⟩ w (.arr N k'' (cs.take off ++ (ys.take n ++ cs.drop (off + min ys.length n)))) (ca ++ (us.take (min ys.length n * k'') ++ cc)) := by
       rw [RepC]
       refine ⟨by rw [← e1]; simp only [List.length_append, List.length_take, List.length_drop]; omega, fun q hq => ?_, RepCs.append c1 (RepCs.append hyt c4)⟩
       rcases List.mem_append.1 hq with hq | hq
       ·exact e2 q (List.mem_of_mem_take hq)
       ·rcases List.mem_append.1 hq with hq | hq
        ·exact hyk q (List.mem_of_mem_take hq)
        ·exact e2 q (List.mem_of_mem_drop hq)
      obtain ⟨k1, k2, k3⟩ := hs.store hid hbo hz hnewr
      -- what is stored is the middle alone
      have hA : CellsAt w b (o + span p) ca := fun j u hj => hca j u (by rw [List.getElem?_append_left (List.getElem?_eq_some_iff.1 hj).1]; exact hj)
      have hC : CellsAt w b (o + span p + ca.length + (us.take (min ys.length n * k'')).length) cc := by
       intro j u hj
       have := hca (ca.length + (cb.length + j)) u (by
        rw [List.getElem?_append_right (by omega), show ca.length + (cb.length + j) - ca.length = cb.length + j from by omega, List.getElem?_append_right (by omega), show cb.length + j - cb.length = j from by omega]; exact hj)
       rw [hul, ← hcbl]
       rw [show o + span p + ca.length + cb.length + j = o + span p + (ca.length + (cb.length + j)) from by omega]; exact this
      have hw' : w.setCells b (o + span p) (ca ++ (us.take (min ys.length n * k'') ++ cc)) = w.setCells b (o + span p + off * k'') (us.take (min ys.length n * k'')) := by
       rw [setCells_append, setCells_append, setCells_self hA, hcal]
       rw [hcal] at hC
       exact setCells_self (cellsAt_setCells hC (Nat.le_refl _))
      rw [hw'] at k1 k2
      have hsub : w.there b (o + span p + off * k'') (us.take (min ys.length n * k'')).length := by
       intro j hj
       have := k3 (ca.length + j) (by simp only [List.length_append]; omega)
       rw [show o + span p + (ca.length + j) = o + span p + off * k'' + j from by omega] at this
       exact this
      refine ⟨_, _, β, _, _, hrun _ cap _ hv' (fun vs hvs => ?_), k1, k2, Rep.of_val, h⟩
      have hvs' : vs = us.take (min ys.length n * k'') := hvs
      subst hvs'
      have := run_storeCells_cells (P := P) b (o + span p + off * k'') (us.take (min ys.length n * k'')) 0 w (fun j hj => by simpa using (hsub j hj).1) (fun j hj => by simpa using (hsub j hj).2) hyt.one
      simpa using this
    ·exact h.elim
   ·exact h.elim
  ·exact h.elim
 ·exact h.elim

theorem Reads.first {w : World} {us : List Value} {n k : Nat} {v : Value} (h : Reads w us n k v) (m : Nat) (hm : m ≤ n) : (Builtin.lenOf v).run P w = .ok n w ∧ (Builtin.firstCells k m v).run P w = .ok (us.take (m * k)).toArray w := by
 cases h with
 | mem b off cap hc hl hn hcap =>
  have hle : m * k ≤ n * k := Nat.mul_le_mul_right _ hm
  refine ⟨rfl, ?_⟩
  have := run_loadCells_list (P := P) w ⟨b, off, Option.none⟩ (us.take (m * k)) (fun j u hj => by
   rw [addr_add]
   refine hc j u ?_
   rw [List.getElem?_take] at hj
   split at hj
   ·exact hj
   ·cases hj)
  rw [List.length_take, Nat.min_eq_left (by omega)] at this
  simpa [Builtin.firstCells] using this
 | none a cap hn hu hcap =>
  have hm0 : m = 0 := by omega
  subst hm0; subst hn; subst hu
  refine ⟨rfl, ?_⟩
  cases a with
  | none => simp [Builtin.firstCells]
  | some ad => simp [Builtin.firstCells, loadCells, loadCellsFrom]

theorem d_copy (hs : Sim ⟨β, H, F⟩ w) (he : EnvOk ⟨β, H, F⟩ w e a) {t tx et : TypeId} {k : Nat} (h0 : sliceOf P t = some (k, et)) {x y : Operand} (h : sop P (.copy k (trO x) (trO y)) e H K) :
  Does P β H F w a K (.call { callee := .builtin .copy, args := [x, y].toArray, argTypes := [t, tx].toArray }) := by
 simp only [sop] at h
 split at h
 ·rename_i ys hys
  obtain ⟨hyk, us, hus, hrd⟩ := elemsOf_spec hs (he.ev y) hys
  intro o KK Q ho hnd hk
  refine OW.of_wp (by rw [ho]; exact hnd) ?_
  obtain ⟨v', w', β', H', x', r1, r2, r3, r4, r5⟩ := copy_sound (P := P) (tx := tx) (ty := o.type) hs (he.ev x) h0 hus hyk (hrd.first 0 (Nat.zero_le _)).1 (fun n hn => (hrd.first n hn).2) h
  unfold Oper.wp
  simp only [execOp, ho, resolve, invoke, builtin, Sem.run_bind, Sem.run_pure, Result.andThen_ok, List.map_toArray, List.map_cons, List.map_nil, r1]
  exact hk _ _ _ _ _ _ r5 r2 r3 r4
 ·exact h.elim

theorem d_copyS (hs : Sim ⟨β, H, F⟩ w) (he : EnvOk ⟨β, H, F⟩ w e a) {t tx et : TypeId} (h0 : sliceOf P t = some (1, et)) {x y : Operand} (h : sop P (.copyS (trO x) (trO y)) e H K) :
  Does P β H F w a K (.call { callee := .builtin .copy, args := [x, y].toArray, argTypes := [t, tx].toArray }) := by
 simp only [sop] at h
 split at h
 ·rename_i s hy
  have hlen : ((bl s).map by8).length = s.size := by simp [bl]
  have hl : (Builtin.lenOf (a.eval y)).run P w = .ok ((bl s).map by8).length w := by rw [he.val hy, hlen]; rfl
  intro o KK Q ho hnd hk
  refine OW.of_wp (by rw [ho]; exact hnd) ?_
  obtain ⟨v', w', β', H', x', r1, r2, r3, r4, r5⟩ := copy_sound (P := P) (tx := tx) (ty := o.type) hs (he.ev x) h0 (repCs_bytes (bl s)) (by simp [width]) hl (fun n hn => by
   rw [he.val hy]
   simp only [Builtin.firstCells, Sem.run_pure]
   congr 1
   apply Array.ext'
   simp [bl, List.extract_eq_take_drop]) h
  unfold Oper.wp
  simp only [execOp, ho, resolve, invoke, builtin, Sem.run_bind, Sem.run_pure, Result.andThen_ok, List.map_toArray, List.map_cons, List.map_nil, r1]
  exact hk _ _ _ _ _ _ r5 r2 r3 r4
 ·exact h.elim

theorem callFunc_go {f : FuncId} {args : Array Value} (hg : isGo P f = true) : (callFunc f args).run P w = .ok (.enter f args) w := by
 unfold isGo at hg
 split at hg
 ·rename_i fn hfn
  rw [Bool.and_eq_true] at hg
  have hb : fn.body.isNone = false := by
   cases hb : fn.body with
   | none => rw [hb] at hg; simp at hg
   | some c => rfl
  have hn : (fn.name == "runtime.NumGoroutine") = false := by simpa using hg.2
  unfold callFunc
  rw [Sem.run_bind, run_program]
  simp only [Result.andThen_ok, hfn, hn, hb, Bool.false_eq_true, if_false]
  rfl
 ·cases hg

theorem enter_sound {f : FuncId} {args : List TV} {vs : List Value} (hs : Sim ⟨β, H, F⟩ w) (hv : RepL ⟨β, H, F⟩ w args vs) (h : VCalls P f args H K) {o : Oper} {KK : Act → World → Prop} {Q : Exit → Act → World → Prop}
  (hk : ∀ x H' β' F' w' v, K x H' → Sim ⟨β', H', F'⟩ w' → Later ⟨β, H, F⟩ w ⟨β', H', F'⟩ w' → Rep ⟨β', H', F'⟩ w' x v → KK (a.put o.dst v) w') : o.upon P a KK Q (.ok (.enter f vs.toArray) w) := by
 rw [Oper.upon_enter]
 refine (h β F w vs hs hv).mono ?_
 rintro _ w' ⟨v, x, β', H', F', rfl, h1, h2, h3, h4⟩
 exact hk _ _ _ _ _ _ h1 h2 h3 h4

theorem d_call (hs : Sim ⟨β, H, F⟩ w) (he : EnvOk ⟨β, H, F⟩ w e a) {f : FuncId} (hg : isGo P f = true) {args : List Operand} {ts : Array TypeId} (h : sop P (.call f (args.map trO)) e H K) : Does P β H F w a K (.call { callee := .value (.func f), args := args.toArray, argTypes := ts }) := by
 simp only [sop] at h
 obtain ⟨ht, h⟩ := h
 have hv := repL_map he args fun x hx => ht _ (List.mem_map_of_mem hx)
 intro o KK Q ho hnd hk
 refine OW.of_wp (by rw [ho]; exact hnd) ?_
 have := enter_sound (a := a) (o := o) (KK := KK) (Q := Q) hs hv h hk
 unfold Oper.wp
 simp only [execOp, ho, resolve, Act.eval, Deferred.ofValue, Sem.run_bind, Sem.run_pure, Result.andThen_ok, invoke, callFunc_go hg]
 simpa using this

theorem rowOf_spec {H : List Ob} {t : TV} {j v : Nat} {l : List UInt8} (h : rowOf H t = some (j, v, l)) : ∃ id ver p x a cp, t = .op id ver p ∧ H[id]? = some (.obj ver x) ∧ getP p x = some (.agg [a, .os 1 j v [] 0 l.length cp]) ∧ width a = 1 ∧ H[j]? = some (.bld v byteTy l) := by
 unfold rowOf at h
 split at h
 ·rename_i id ver p
  split at h
  ·rename_i v0 y hid
   split at h
   ·rename_i hv
    split at h
    ·rename_i a j0 v2 n cp hg
     split at h
     ·rename_i v3 t l0 hj
      split at h
      ·rename_i hc
       obtain ⟨rfl, rfl, rfl, hw⟩ := hc
       cases h
       subst hv
       exact ⟨id, _, p, y, a, cp, rfl, hid, hg, hw, hj⟩
      ·cases h
     ·cases h
    ·cases h
   ·cases h
  ·cases h
 ·cases h
theorem d_bstr (hs : Sim ⟨β, H, F⟩ w) (he : EnvOk ⟨β, H, F⟩ w e a) {f : FuncId} (hg : isGo P f = true) {x : Operand} {ts : Array TypeId} (h : sop P (.bstr f (trO x)) e H K) : Does P β H F w a K (.call { callee := .value (.func f), args := [x].toArray, argTypes := ts }) := by
 refine d_call (args := [x]) hs he hg ?_
 simp only [sop] at h
 obtain ⟨hB, h⟩ := h
 split at h
 ·rename_i j v l hr
  obtain ⟨id, ver, p, y, a0, cp, h1, h2, h3, h4, h5⟩ := rowOf_spec hr
  show (∀ z ∈ [trO x], isTup (z.ev e) = false) ∧ VCalls P f [(trO x).ev e] H K
  rw [h1]
  refine ⟨fun z hz => ?_, hB id ver j v cp p y a0 l H K h2 h3 h4 h5 h.1 h.2⟩
  rw [List.mem_singleton] at hz; subst hz; rw [h1]; rfl
 ·exact h.elim

theorem RepL.append {c : Ctx} {w : World} : ∀ {xs ys : List TV} {us vs : List Value}, RepL c w xs us → RepL c w ys vs → RepL c w (xs ++ ys) (us ++ vs)
 | [], ys, us, vs, h, k => by rw [RepL.nil] at h; subst h; exact k
 | x :: xs, ys, us, vs, h, k => by
  obtain ⟨u, us', rfl, h1, h2⟩ := RepL.cons.1 h
  exact RepL.cons.2 ⟨u, us' ++ vs, rfl, h1, RepL.append h2 k⟩

theorem d_callv (hs : Sim ⟨β, H, F⟩ w) (he : EnvOk ⟨β, H, F⟩ w e a) {t : Nat} {args : List Operand} {ts : Array TypeId} (h : sop P (.callv (.t t) (args.map trO)) e H K) : Does P β H F w a K (.call { callee := .value (.tmp t), args := args.toArray, argTypes := ts }) := by
 simp only [sop] at h
 obtain ⟨ht, h⟩ := h
 have hv := repL_map he args fun x hx => ht _ (List.mem_map_of_mem hx)
 split at h
 ·rename_i f first caps hx
  obtain ⟨hg, h⟩ := h
  have hr : Rep ⟨β, H, F⟩ w (.fn (.func f) first caps) (a.eval (.tmp t)) := he.rep (x := .tmp t) hx
  have h1 := hr.inv1 (by simp) (by simp) (by simp) (by simp) (by simp)
  rw [RepC] at h1
  obtain ⟨us, vs, hv1, hf, hc⟩ := h1
  have hv' : a.eval (.tmp t) = .func (.func f) us.toArray vs.toArray := by simpa using hv1
  intro o KK Q ho hnd hk
  refine OW.of_wp (by rw [ho]; exact hnd) ?_
  have := enter_sound (a := a) (o := o) (KK := KK) (Q := Q) hs (RepL.append (RepL.append hf hv) hc) h hk
  unfold Oper.wp
  simp only [execOp, ho, resolve, hv', Deferred.ofValue, Sem.run_bind, Sem.run_pure, Result.andThen_ok, invoke, callFunc_go hg]
  simpa using this
 ·rename_i f xs ys hx
  obtain ⟨hxy, hg, h⟩ := h
  rw [Bool.and_eq_true, Array.isEmpty_iff, Array.isEmpty_iff] at hxy
  obtain ⟨rfl, rfl⟩ := hxy
  have hv' : a.eval (.tmp t) = .func (.func f) #[] #[] := he.val (x := .tmp t) hx
  intro o KK Q ho hnd hk
  refine OW.of_wp (by rw [ho]; exact hnd) ?_
  have := enter_sound (a := a) (o := o) (KK := KK) (Q := Q) hs hv h hk
  unfold Oper.wp
  simp only [execOp, ho, resolve, hv', Deferred.ofValue, Sem.run_bind, Sem.run_pure, Result.andThen_ok, invoke, callFunc_go hg]
  simpa using this
 ·rename_i id ver hx
  have hr : Rep ⟨β, H, F⟩ w (.yl id ver) (a.eval (.tmp t)) := he.rep (x := .tmp t) hx
  have h1 := hr.inv1 (by simp) (by simp) (by simp) (by simp) (by simp)
  rw [RepC] at h1
  obtain ⟨_, b, off, hb, hv1⟩ := h1
  have hv' : a.eval (.tmp t) = .func (.yield b) #[] #[] := by simpa using hv1
  intro o KK Q ho hnd hk ro n
  obtain ⟨fn, tmps, as, bd, hy, hR⟩ := h β F w _ b off hs hv hb (n - 1)
  refine ⟨fun _ _ => trivial, ?_⟩
  rw [show (fz ro).round = ro from rfl, Oper.semAt_eq ro a.eval o (by rw [ho]; exact hnd)]
  have hrun : (execOp a.eval o).run P w = .ok (.round b fn tmps as bd) w := by
   simp only [execOp, ho, resolve, hv', Deferred.ofValue, Sem.run_bind, Sem.run_pure, Result.andThen_ok, invoke]
   simpa [go_sem] using hy
  rw [hrun, Oper.uponIn_round]
  refine ⟨fun h => by simp [fz, Fence.wide] at h, RoundIn.mono (hR : RoundIn (fz ro) (n - 1) P b fn tmps as bd w _) ?_⟩
  rintro _ w' ⟨v, x, β', H', F', rfl, k1, k2, k3, k4⟩
  exact hk _ _ _ _ _ _ k1 k2 k3 k4
 ·exact h.elim

theorem d_bslice (hs : Sim ⟨β, H, F⟩ w) (he : EnvOk ⟨β, H, F⟩ w e a) {t et : TypeId} {k n : Nat} {i : TypeInfo} {z : Value} {x : TV} (h0 : sliceOf P t = some (k, et)) (h1 : P.info? et = some i) (h2 : i.zero = some z) (h3 : z.cells.size = k ∧ k ≠ 0 ∧ n * k ≤ 16777216) (h4 : zT P 400 et z.cells.toList = some x)
  {ps : Array (Nat × Operand)} (h : sop P (.bslice k n x (ps.toList.map fun q => (q.1, trO q.2))) e H K) : Does P β H F w a K (.buildSlice t n ps) := by
 obtain ⟨g1, g2⟩ := sliceOf_spec h0
 obtain ⟨hz, hzp⟩ := zT_spec (c := ⟨β, H, F⟩) (w := w) h4
 simp only [sop] at h
 obtain ⟨⟨hok, hpure, hn⟩, h⟩ := h
 have hm := made_rep hz (by rw [h3.1]; exact h3.2.1) n
 have hx : width x = k := by rw [← hz.length]; simpa using h3.1
 have hplace : ∀ i k', (List.replicate n k)[i]? = some k' → (fun i => some (i * k, k)) i = some (((List.replicate n k).take i).sum, k') := by
  intro i k' h
  rw [List.getElem?_replicate] at h
  split at h
  ·rename_i hi; cases h
   simp only [List.take_replicate, List.sum_replicate_nat]
   rw [Nat.min_eq_left (by omega)]
  ·cases h
 let av : Opd → Value := fun x => match x with | .t n => a.tmps.getD n undef | .c v => v | .g n => .pointer (some ⟨n, 0, none⟩)
 have hav : ∀ x : Opd, Rep ⟨β, H, F⟩ w (x.ev e) (av x) := by
  intro x; cases x with
  | t n => exact he.1 n
  | c v => exact Rep.of_val
  | g n => exact he.ev (.global n)
 have hav2 : ∀ x : Operand, av (trO x) = a.eval x := by intro x; cases x <;> rfl
 obtain ⟨us', k1, k2, k3⟩ := fill_spec hav hplace (ps.toList.map fun q => (q.1, trO q.2)) (List.replicate n x) (madeCells z.cells (n * z.cells.size)).toList (by simp [hx]) hm hok
 have hfl : ∀ (qs : List (Nat × Opd)) (l : List TV), pureL l = true → fillsPure e qs → pureL (fills e l qs) = true := by
  intro qs
  induction qs with
  | nil => intro l hl _; exact hl
  | cons q qs ih =>
   obtain ⟨i, x⟩ := q
   intro l hl hp
   rw [fillsPure] at hp
   refine ih _ ?_ hp.2
   have hs : ∀ (l : List TV) (i : Nat), pureL l = true → pureL (l.set i (x.ev e)) = true := by
    intro l
    induction l with
    | nil => intro i h; simpa using h
    | cons y l ihl =>
     intro i h
     rw [pureL, Bool.and_eq_true] at h
     cases i with
     | zero => rw [List.set_cons_zero, pureL, hp.1, h.2]; rfl
     | succ i => rw [List.set_cons_succ, pureL, h.1, ihl i h.2]; rfl
   exact hs l i hl
 have hrp : ∀ n, pureL (List.replicate n x) = true := by
  intro n; induction n with
  | zero => rfl
  | succ n ih => rw [List.replicate_succ, pureL, hzp, ih]; rfl
 have hparts : ((ps.toList.map fun q => (q.1, trO q.2)).map fun q => (q.1, av q.2)) = ps.toList.map fun q => (q.1, a.eval q.2) := by simp [hav2]
 rw [hparts, Array.toArray_toList] at k1
 have hlen : (fills e (List.replicate n x) (ps.toList.map fun q => (q.1, trO q.2))).length = n := by
  have := congrArg List.length k3
  simpa using this
 have hrow : RepC ⟨β, H, F⟩ w (.arr n k (fills e (List.replicate n x) (ps.toList.map fun q => (q.1, trO q.2)))) us' := by
  rw [RepC]
  refine ⟨hlen, fun y hy => ?_, RepCs.pure (hfl _ _ (hrp n) hpure) k2⟩
  have : width y ∈ (fills e (List.replicate n x) (ps.toList.map fun q => (q.1, trO q.2))).map width := List.mem_map_of_mem hy
  rw [k3] at this
  exact List.eq_of_mem_replicate this
 obtain ⟨q1, q2⟩ := hs.newObj (post := []) hrow et (0, 0) (bare0 _)
 refine Does.mk (s := fun _ => Instr.buildSlice t n (ps.map fun (i, x) => (i, a.eval x))) (v := .slice (some ⟨w.heap.size, 0, none⟩) n n) (fun o ho => by simp only [execOp, ho]) (fun o => ?_) q1 q2 (rep_new_row (w := w) (N := 0) rfl (by omega) (Nat.le_refl _) (Nat.le_refl _) (by rw [List.append_nil, hrow.length, width]; exact Nat.le_refl _) (w0 := w) rfl) h
 have hns : ¬ (16777216 < n * k) := by omega
 have hmk : (Array.range (n * k)).map (fun x => z.cells[x % z.cells.size]!) = madeCells z.cells (n * k) := rfl
 have hzv : (zeroValue et).run P w = .ok z w := by simp [zeroValue, typeInfo, h1, h2]
 rw [h3.1] at k1
 have hpl2 : (ps.map fun (i, x) => (i, a.eval x)).toList = ps.toList.map fun q => (q.1, a.eval q.2) := by rw [Array.toList_map]
 have k1' : Instr.fill (fun i => some (i * k, k)) (madeCells z.cells (n * k)) (ps.map fun (i, x) => (i, a.eval x)).toList = some us'.toArray := by rw [hpl2]; exact k1
 simp only [Instr.buildSlice, Sem.run_bind, run_underlying g1, Result.andThen_ok, run_szOf g2]
 rw [Sem.run_ite, if_neg (by simpa using hns)]
 by_cases hn0 : n * k = 0
 ·have hmk0 : madeCells z.cells (n * k) = #[] := by rw [hn0]; simp [madeCells]
  rw [hmk0] at k1'
  simp only [hn0, if_true, Sem.run_bind, Sem.run_pure, Result.andThen_ok]
  have he0 : (Array.range 0).map (fun x => (#[] : Array Value)[x % (#[] : Array Value).size]!) = #[] := by simp
  rw [he0, k1']
  simp [newRow, newObj, Sem.run]
 ·simp only [hn0, if_false, Sem.run_bind, hzv, Sem.run_pure, Result.andThen_ok]
  rw [hmk, k1']
  simp [newRow, newObj, Sem.run]

/-- WHAT MAKES OR WRITES DOES WHAT THE MACHINE OF VALUES SAYS. -/
theorem sop_sound (hs : Sim ⟨β, H, F⟩ w) (he : EnvOk ⟨β, H, F⟩ w e a) {op : Op} {so : SOp} (ht : trS P op = some so) (h : sop P so e H K) : Does P β H F w a K op := by
 cases op with
 | alloc t =>
  simp only [trS] at ht
  split at ht
  ·rename_i i h1; split at ht
   ·rename_i z h2
    obtain ⟨x, h3, e9⟩ := Option.map_eq_some_iff.1 ht
    split at e9
    ·subst e9; exact d_allocT hs h1 h2 h3 h
    ·subst e9; exact d_alloc hs h1 h2 h3 h
   ·cases ht
  ·cases ht
 | box t x =>
  simp only [trS, Option.some.injEq] at ht
  split at ht
  ·subst ht; exact d_boxT hs he h
  ·subst ht; exact d_box hs he h
 | buildSlice t n ps =>
  simp only [trS] at ht
  split at ht
  ·rename_i k et h0; split at ht
   ·rename_i i h1; split at ht
    ·rename_i z h2; split at ht
     ·rename_i h3; obtain ⟨x, h4, rfl⟩ := Option.map_eq_some_iff.1 ht; exact d_bslice hs he h0 h1 h2 h3 h4 h
     ·cases ht
    ·cases ht
   ·cases ht
  ·cases ht
 | store t x y =>
  simp only [trS] at ht
  obtain ⟨sz, h2, rfl⟩ := Option.map_eq_some_iff.1 ht
  exact d_store hs he h2 h
 | makeSlice t l c =>
  simp only [trS] at ht
  split at ht
  ·rename_i k et h0; split at ht
   ·rename_i i h1; split at ht
    ·rename_i z h2; split at ht
     ·rename_i h3; obtain ⟨x, h4, rfl⟩ := Option.map_eq_some_iff.1 ht; exact d_mks hs he h0 h1 h2 h3 h4 h
     ·cases ht
    ·cases ht
   ·cases ht
  ·cases ht
 | panic x => simp only [trS, Option.some.injEq] at ht; subst ht; simp [sop] at h
 | range t x =>
  simp only [trS] at ht
  split at ht
  ·rename_i h1; cases ht; exact d_rngS hs he h1 h
  ·cases ht
 | next x b =>
  cases b with
  | true => simp only [trS, Option.some.injEq] at ht; subst ht; exact d_nxtS hs he h
  | false => simp [trS] at ht
 | makeMap t r =>
  simp only [trS] at ht
  split at ht
  ·rename_i kt et h1; obtain ⟨kk, h2, rfl⟩ := Option.map_eq_some_iff.1 ht; exact d_mkm hs he h1 h
  ·cases ht
 | mapUpdate t m k x =>
  simp only [trS] at ht
  split at ht
  ·rename_i kt et h1; obtain ⟨kk, h2, rfl⟩ := Option.map_eq_some_iff.1 ht; exact d_mupd hs he h1 h2 h
  ·cases ht
 | mapEntry t m k =>
  simp only [trS] at ht
  split at ht
  ·rename_i h1; cases ht; exact d_ment hs he h1 h
  ·cases ht
 | entryStore t m st x => simp only [trS, Option.some.injEq] at ht; subst ht; exact d_mest hs he h
 | convert src dst x =>
  simp only [trS] at ht
  split at ht
  ·rename_i h1; cases ht; exact d_s2b hs he h1 h
  ·cases ht
 | call cl =>
  obtain ⟨callee, args, ts⟩ := cl
  obtain ⟨args⟩ := args
  obtain ⟨ts⟩ := ts
  cases callee with
  | invoke f m => simp [trS] at ht
  | value f =>
   cases f with
   | func f =>
    simp only [trS] at ht
    split at ht
    ·rename_i hg
     split at ht
     ·split at ht
      ·cases ht; exact d_bstr hs he hg h
      ·cases ht; exact d_call (args := [_]) hs he hg h
     ·cases ht; exact d_call hs he hg h
    ·cases ht
   | tmp t => simp only [trS, Option.some.injEq] at ht; subst ht; exact d_callv hs he h
   | const v => simp [trS] at ht
   | global g => simp [trS] at ht
  | builtin b =>
   cases b with
   | append =>
    rcases args with _ | ⟨x, _ | ⟨y, _ | ⟨z, args⟩⟩⟩ <;> rcases ts with _ | ⟨t, _ | ⟨tx, _ | ⟨t', ts⟩⟩⟩ <;> simp only [trS] at ht <;> first | (cases ht; done) | skip
    split at ht
    ·rename_i k et h0; split at ht
     ·rename_i i h1; split at ht
      ·rename_i z h2; split at ht
       ·rename_i h3; split at ht
        ·rename_i h4; split at ht
         ·rename_i h5; obtain ⟨rfl, h5⟩ := h5; cases ht; exact d_appS hs he h0 h1 h2 h3 h5 h4 h
         ·cases ht
        ·split at ht
         ·rename_i h4; cases ht; exact d_app hs he h0 h1 h2 h3 h4 h
         ·cases ht
       ·cases ht
      ·cases ht
     ·cases ht
    ·cases ht
   | copy =>
    rcases args with _ | ⟨x, _ | ⟨y, _ | ⟨z, args⟩⟩⟩ <;> rcases ts with _ | ⟨t, _ | ⟨tx, _ | ⟨t', ts⟩⟩⟩ <;> simp only [trS] at ht <;> first | (cases ht; done) | skip
    split at ht
    ·rename_i k et h0; split at ht
     ·split at ht
      ·rename_i hk; subst hk; cases ht; exact d_copyS hs he h0 h
      ·cases ht
     ·split at ht
      ·cases ht; exact d_copy hs he h0 h
      ·cases ht
    ·cases ht
   | _ => simp [trS] at ht
 | _ => simp [trS] at ht

end sound
end Go.Proofs.YtfgljddikcghhaaDoor

namespace Go.Proofs.YtfgljddikcghhaaDoor
open Go.RowKit
variable [Globs]
set_option linter.unusedSectionVars false
set_option linter.unusedSimpArgs false
set_option linter.unusedVariables false
set_option autoImplicit false

def Opd.rd : Opd → List Nat
 | .t n => [n]
 | .c _ => []
 | .g _ => []
def rdO : Option Opd → List Nat
 | none => []
 | some x => x.rd
def POp.rd : POp → List Nat
 | .mov x | .un _ x | .conv _ x | .s2s x | .b2s x | .load _ _ x | .fieldA _ _ x | .field _ _ _ _ x | .ext _ x | .lenS x | .lenV x | .iface _ x | .nilc x => x.rd
 | .bin _ _ x y | .idxA _ x y | .idxAA _ _ x y | .idx _ _ _ x y | .idxS x y | .min x y | .max x y | .eqB x y _ | .eqN _ x y _ => x.rd ++ y.rd
 | .pick x y z => x.rd ++ (y.rd ++ z.rd)
 | .slS x lo hi | .slV _ x lo hi | .slA _ _ x lo hi => x.rd ++ (rdO lo ++ rdO hi)
 | .mkf _ a b => (a ++ b).flatMap Opd.rd
 | .build _ _ ps | .buildA _ _ _ ps => ps.flatMap fun q => q.2.rd
 | .gen _ xs => xs.flatMap Opd.rd

theorem ev_congr {e e' : Env} {x : Opd} (h : ∀ s ∈ x.rd, get e s = get e' s) : x.ev e = x.ev e' := by
 cases x with
 | t n => exact h n (by simp [Opd.rd])
 | c v => rfl
 | g n => rfl
theorem bnd_congr {e e' : Env} {lo hi : Option Opd} (h : ∀ s ∈ rdO lo ++ rdO hi, get e s = get e' s) (n lim : Nat) (K : Nat → Nat → Prop) : bnd e lo hi n lim K = bnd e' lo hi n lim K := by
 unfold bnd
 cases lo with
 | none => cases hi with
  | none => rfl
  | some y => simp only [ev_congr (x := y) (e := e) (e' := e') fun s hs => h s (by simp [rdO, hs])]
 | some x =>
  have h1 := ev_congr (x := x) (e := e) (e' := e') fun s hs => h s (by simp [rdO, hs])
  cases hi with
  | none => simp only [h1]
  | some y => simp only [h1, ev_congr (x := y) (e := e) (e' := e') fun s hs => h s (by simp [rdO, hs])]
theorem fills_congr {e e' : Env} : ∀ {ps : List (Nat × Opd)} (h : ∀ s ∈ ps.flatMap (fun q => q.2.rd), get e s = get e' s) (zs : List TV) (szs : List Nat), fills e zs ps = fills e' zs ps ∧ fillsOk e szs ps = fillsOk e' szs ps ∧ fillsPure e ps = fillsPure e' ps
 | [], h, zs, szs => ⟨rfl, rfl, rfl⟩
 | (i, x) :: ps, h, zs, szs => by
  have h1 := ev_congr (x := x) (e := e) (e' := e') fun s hs => h s (by simp [hs])
  have h2 : ∀ s ∈ ps.flatMap (fun q => q.2.rd), get e s = get e' s := fun s hs => h s (by rw [List.flatMap_cons]; exact List.mem_append_right _ hs)
  obtain ⟨k1, k2, k3⟩ := fills_congr h2 (zs.set i (x.ev e')) szs
  refine ⟨by rw [fills, fills, h1, k1], by rw [fillsOk, fillsOk, h1, k2], by rw [fillsPure, fillsPure, h1, k3]⟩
theorem map_ev_congr {e e' : Env} : ∀ {xs : List Opd} (h : ∀ s ∈ xs.flatMap Opd.rd, get e s = get e' s), xs.map (·.ev e) = xs.map (·.ev e')
 | [], h => rfl
 | x :: xs, h => by
  rw [List.map_cons, List.map_cons, ev_congr (x := x) (e := e) (e' := e') fun s hs => h s (by simp [hs]), map_ev_congr fun s hs => h s (by rw [List.flatMap_cons]; exact List.mem_append_right _ hs)]

theorem pop_congr {o : POp} {e e' : Env} (h : ∀ s ∈ o.rd, get e s = get e' s) (H : List Ob) (K : TV → Prop) : pop o e H K = pop o e' H K := by
 have two : ∀ {x y : Opd}, (∀ s ∈ x.rd ++ y.rd, get e s = get e' s) → x.ev e = x.ev e' ∧ y.ev e = y.ev e' := fun h => ⟨ev_congr fun s hs => h s (List.mem_append_left _ hs), ev_congr fun s hs => h s (List.mem_append_right _ hs)⟩
 cases o with
 | mov x => simp only [pop, ev_congr h]
 | un op x => simp only [pop, ev_congr h]
 | conv k x => simp only [pop, ev_congr h]
 | s2s x => simp only [pop, ev_congr h]
 | b2s x => simp only [pop, ev_congr h]
 | load ag sz x => simp only [pop, ev_congr h]
 | fieldA i off x => simp only [pop, ev_congr h]
 | field ag sz i off x => simp only [pop, ev_congr h]
 | ext i x => simp only [pop, ev_congr h]
 | lenS x => simp only [pop, ev_congr h]
 | lenV x => simp only [pop, ev_congr h]
 | iface t x => simp only [pop, ev_congr h]
 | nilc x => simp only [pop, ev_congr h]
 | bin t op x y => obtain ⟨h1, h2⟩ := two h; simp only [pop, h1, h2]
 | idxA k x y => obtain ⟨h1, h2⟩ := two h; simp only [pop, h1, h2]
 | idxAA n k x y => obtain ⟨h1, h2⟩ := two h; simp only [pop, h1, h2]
 | idx ag n k x y => obtain ⟨h1, h2⟩ := two h; simp only [pop, h1, h2]
 | idxS x y => obtain ⟨h1, h2⟩ := two h; simp only [pop, h1, h2]
 | min x y => obtain ⟨h1, h2⟩ := two h; simp only [pop, h1, h2]
 | max x y => obtain ⟨h1, h2⟩ := two h; simp only [pop, h1, h2]
 | eqB x y n => obtain ⟨h1, h2⟩ := two h; simp only [pop, h1, h2]
 | eqN kd x y n => obtain ⟨h1, h2⟩ := two h; simp only [pop, h1, h2]
 | pick x y z =>
  have h1 := ev_congr (x := x) (e := e) (e' := e') fun s hs => h s (List.mem_append_left _ hs)
  obtain ⟨h2, h3⟩ := two fun s hs => h s (List.mem_append_right _ hs)
  simp only [pop, h1, h2, h3]
 | slS x lo hi =>
  have h1 := ev_congr (x := x) (e := e) (e' := e') fun s hs => h s (List.mem_append_left _ hs)
  have h2 := fun n lim K => bnd_congr (lo := lo) (hi := hi) (e := e) (e' := e') (fun s hs => h s (List.mem_append_right _ hs)) n lim K
  simp only [pop, h1, h2]
 | slV k x lo hi =>
  have h1 := ev_congr (x := x) (e := e) (e' := e') fun s hs => h s (List.mem_append_left _ hs)
  have h2 := fun n lim K => bnd_congr (lo := lo) (hi := hi) (e := e) (e' := e') (fun s hs => h s (List.mem_append_right _ hs)) n lim K
  simp only [pop, h1, h2]
 | slA n k x lo hi =>
  have h1 := ev_congr (x := x) (e := e) (e' := e') fun s hs => h s (List.mem_append_left _ hs)
  have h2 := fun n lim K => bnd_congr (lo := lo) (hi := hi) (e := e) (e' := e') (fun s hs => h s (List.mem_append_right _ hs)) n lim K
  simp only [pop, h1, h2]
 | mkf f a b =>
  have h1 := map_ev_congr (xs := a) (e := e) (e' := e') fun s hs => h s (by show s ∈ (a ++ b).flatMap Opd.rd; rw [List.flatMap_append]; exact List.mem_append_left _ hs)
  have h2 := map_ev_congr (xs := b) (e := e) (e' := e') fun s hs => h s (by show s ∈ (a ++ b).flatMap Opd.rd; rw [List.flatMap_append]; exact List.mem_append_right _ hs)
  have h3 : (∀ x ∈ a ++ b, isTup (x.ev e) = false) = (∀ x ∈ a ++ b, isTup (x.ev e') = false) := by
   refine propext ⟨fun k x hx => ?_, fun k x hx => ?_⟩
   ·rw [← ev_congr (e := e) (e' := e') fun s hs => h s (List.mem_flatMap.2 ⟨x, hx, hs⟩)]; exact k x hx
   ·rw [ev_congr (e := e) (e' := e') fun s hs => h s (List.mem_flatMap.2 ⟨x, hx, hs⟩)]; exact k x hx
  simp only [pop, h1, h2, h3]
 | gen g xs => simp only [pop, map_ev_congr (xs := xs) (e := e) (e' := e') h]
 | build zs szs ps =>
  obtain ⟨k1, k2, k3⟩ := fills_congr h zs szs
  simp only [pop, k1, k2]
 | buildA n k zs ps =>
  obtain ⟨k1, k2, k3⟩ := fills_congr h zs (List.replicate n k)
  simp only [pop, k1, k2, k3]

theorem bnd_det {e : Env} {lo hi : Option Opd} {n lim : Nat} {K : Nat → Nat → Prop} (h : bnd e lo hi n lim K) : ∃ l m, (∀ K', bnd e lo hi n lim K' = (True ∧ K' l m)) ∧ K l m := by
 unfold bnd at h
 split at h
 ·rename_i l m h1 h2
  refine ⟨l.toNat, m.toNat, fun K' => ?_, h.2⟩
  unfold bnd
  simp only [h1, h2, h.1, true_and, and_self]
 ·exact h.elim

/-- It yields one thing. -/
theorem pop_det {o : POp} {e : Env} {H : List Ob} {K : TV → Prop} (h : pop o e H K) : ∃ x, (∀ K' : TV → Prop, K' x → pop o e H K') ∧ K x := by
 cases o with
 | mov x => exact ⟨_, fun K' k => k, h⟩
 | iface t x => exact ⟨_, fun K' k => ⟨h.1, k⟩, h.2⟩
 | mkf f a b => exact ⟨_, fun K' k => ⟨h.1, k⟩, h.2⟩
 | build zs szs ps => exact ⟨_, fun K' k => ⟨h.1, k⟩, h.2⟩
 | gen g xs =>
  simp only [pop] at h
  split at h
  ·rename_i y hy; exact ⟨y, fun K' k => by simp only [pop, hy]; exact k, h⟩
  ·exact h.elim
 | buildA n k zs ps => exact ⟨_, fun K' k => ⟨h.1, h.2.1, k⟩, h.2.2⟩
 | slS x lo hi =>
  simp only [pop] at h
  split at h
  ·rename_i s hs
   obtain ⟨l, m, h1, h2⟩ := bnd_det h
   exact ⟨_, fun K' k => by simp only [pop, hs, h1, true_and]; exact k, h2⟩
  ·exact h.elim
 | slV k x lo hi =>
  simp only [pop] at h
  split at h
  ·rename_i k' cs hs
   obtain ⟨rfl, h⟩ := h
   obtain ⟨l, m, h1, h2⟩ := bnd_det h
   exact ⟨_, fun K' k => by simp only [pop, hs, h1, true_and]; exact k, h2⟩
  ·rename_i k' id ver p off n cp hs
   obtain ⟨rfl, h⟩ := h
   obtain ⟨l, m, h1, h2⟩ := bnd_det h
   exact ⟨_, fun K' k => by simp only [pop, hs, h1, true_and]; exact k, h2⟩
  ·rename_i ad hs
   obtain ⟨l, m, h1, h2⟩ := bnd_det h
   exact ⟨_, fun K' k => by simp only [pop, hs, h1, true_and]; exact k, h2⟩
  ·exact h.elim
 | slA n k x lo hi =>
  simp only [pop] at h
  split at h
  ·rename_i n' k' cs hs
   obtain ⟨rfl, rfl, hn, h⟩ := h
   obtain ⟨l, m, h1, h2⟩ := bnd_det h
   exact ⟨_, fun K' k => by simp only [pop, hs, h1, true_and, hn]; exact k, h2⟩
  ·rename_i id ver p hs
   split at h
   ·rename_i v z hid
    obtain ⟨rfl, hn, h⟩ := h
    split at h
    ·rename_i n' k' cs hg
     obtain ⟨rfl, rfl, h⟩ := h
     obtain ⟨l, m, h1, h2⟩ := bnd_det h
     exact ⟨_, fun K' k => by simp only [pop, hs, hid, hg, h1, true_and, hn]; exact k, h2⟩
    ·exact h.elim
   ·exact h.elim
  ·exact h.elim
 | min x y =>
  simp only [pop] at h
  split at h
  ·rename_i k a k' b h1 h2; exact ⟨_, fun K' k => by simp only [pop, h1, h2]; exact k, h⟩
  ·exact h.elim
 | max x y =>
  simp only [pop] at h
  split at h
  ·rename_i k a k' b h1 h2; exact ⟨_, fun K' k => by simp only [pop, h1, h2]; exact k, h⟩
  ·exact h.elim
 | idx ag n k x y =>
  simp only [pop] at h
  split at h
  ·rename_i n' k' cs ik j h1 h2
   obtain ⟨rfl, rfl, h3, h⟩ := h
   split at h
   ·rename_i y h4; exact ⟨_, fun K' k => by simp only [pop, h1, h2, h4, true_and]; exact ⟨h3, h.1, k⟩, h.2⟩
   ·exact h.elim
  ·exact h.elim
 | _ =>
  simp only [pop] at h
  (repeat' split at h) <;> first
   | exact h.elim
   | exact ⟨_, fun K' k => by simp_all [pop], h⟩
   | exact ⟨_, fun K' k => by simp_all [pop], h.2⟩
   | exact ⟨_, fun K' k => by simp_all [pop], h.2.2⟩
   | exact ⟨_, fun K' k => by simp_all [pop], h.2.2.2⟩
   | exact h.2.elim
   | exact h.2.2.elim
   | exact h.2.2.2.elim
end Go.Proofs.YtfgljddikcghhaaDoor

namespace Go.Proofs.YtfgljddikcghhaaDoor
open Go.RowKit
variable [Globs]
set_option linter.unusedSectionVars false
set_option linter.unusedSimpArgs false
set_option linter.unusedVariables false
set_option autoImplicit false

inductive VOp where
 | p (o : POp)
 | s (o : SOp)
 deriving Inhabited

structure VO where
 dst : Option Nat
 op : VOp
 g : Option (Nat × Bool)
 deriving Inhabited

def trV (P : Program) (op : Op) : Option VOp := match trP P op with
 | some o => some (.p o)
 | none => (trS P op).map .s
def trG (ops : List Oper) : Option (Nat × Bool) → Option (Option (Nat × Bool))
 | none => some none
 | some (j, b) => match (ops[j]?).bind (·.dst) with
  | some s => some (some (s, b))
  | none => none
def trL (P : Program) (N : Nat) (all : List Oper) : List Oper → Option (List VO)
 | [] => some []
 | o :: os => match trV P o.op, trG all o.guard, trL P N all os with
  | some v, some g, some r => if o.dst.all (· < N) then some (⟨o.dst, v, g⟩ :: r) else none
  | _, _, _ => none
def putE (e : Env) : Option Nat → TV → Env
 | none, _ => e
 | some d, x => (d, x) :: e
def forget (kp : List Nat) (e : Env) : Env := kp.map fun s => (s, get e s)

def vop (P : Program) (o : VOp) (e : Env) (H : List Ob) (K : TV → List Ob → Prop) : Prop := match o with
 | .p o => pop o e H fun x => K x H
 | .s o => sop P o e H K

def isB : Value → Option Bool
 | .bool b => some b
 | _ => none
/-- What a guard's slot says. -/
def knowB (e : Env) (s : Nat) (K : Env → Option Bool → Prop) : Prop := match get e s with
 | .val v => K e (isB v)
 | .any => (∀ t, K ((s, .val (.bool t)) :: e) (some t)) ∧ ∀ v, isB v = none → K ((s, .val v) :: e) none
 | _ => False

def wops (W : VOp → Env → List Ob → (TV → List Ob → Prop) → Prop) : List VO → (Env → List Ob → Prop) → Env → List Ob → Prop
 | [], K, e, H => K e H
 | o :: r, K, e, H => match o.g with
  | none => W o.op e H fun x H => wops W r K (putE e o.dst x) H
  | some (s, b) => knowB e s fun e q => match q with
   | some t => if t = b then W o.op e H fun x H => wops W r K (putE e o.dst x) H else wops W r K (putE e o.dst (.val undef)) H
   | none => wops W r K (putE e o.dst (.val undef)) H

def vops (P : Program) (l : List VO) (K : Env → List Ob → Prop) (e : Env) (H : List Ob) : Prop := wops (vop P) l K e H
/-- Operations that may end in a panic: what holds then is KP. -/
def pvop (P : Program) (KP : Value → List Ob → Prop) (o : VOp) (e : Env) (H : List Ob) (K : TV → List Ob → Prop) : Prop := match o with
 | .s (.call f xs) => (∀ x ∈ xs, isTup (x.ev e) = false) ∧ VCallsP P f (xs.map (·.ev e)) H K KP
 | .s (.pan x) => (match x.ev e with
  | .val (.iface t v) => KP (.iface t v) H
  | .ifc t (.val v) => KP (.iface t v) H
  | _ => False)
 | o => vop P o e H K
def pvops (P : Program) (KP : Value → List Ob → Prop) (l : List VO) (K : Env → List Ob → Prop) (e : Env) (H : List Ob) : Prop := wops (pvop P KP) l K e H

section sound
variable {P : Program}

/-- The frame as it stands. -/
structure Fr (N : Nat) (D : List Deferred) (c : Ctx) (w : World) (e : Env) (a : Act) : Prop where
 env : EnvOk c w e a
 size : a.tmps.size = N
 defers : a.defers = D

theorem get_cons (k s : Nat) (x : TV) (e : Env) : get ((k, x) :: e) s = if k = s then x else get e s := rfl
theorem get_forget : ∀ (kp : List Nat) (e : Env) (s : Nat), get (forget kp e) s = if s ∈ kp then get e s else .any
 | [], e, s => by simp [forget, get]
 | k :: kp, e, s => by
  have := get_forget kp e s
  simp only [forget, List.map_cons] at this ⊢
  rw [get_cons, this]
  by_cases h : k = s
  ·subst h; simp
  ·rw [if_neg h]
   have h' : ¬ s = k := fun e => h e.symm
   simp only [List.mem_cons, h', false_or]
theorem Fr.forget {N : Nat} {D : List Deferred} {c : Ctx} {w : World} {e : Env} {a : Act} (h : Fr N D c w e a) (kp : List Nat) : Fr N D c w (forget kp e) a :=
 ⟨⟨fun s => by
  rw [get_forget]; split
  ·exact h.env.1 s
  ·exact Rep.any, h.env.2⟩, h.size, h.defers⟩
theorem Fr.put {N : Nat} {D : List Deferred} {c c' : Ctx} {w w' : World} {e : Env} {a : Act} (h : Fr N D c w e a) (hm : Mono c w c' w') {dst : Option Nat} (hd : dst.all (· < N) = true) {x : TV} {v : Value} (hx : Rep c' w' x v) : Fr N D c' w' (putE e dst x) (a.put dst v) := by
 cases dst with
 | none => exact ⟨⟨fun s => Rep.mono hm (h.env.1 s), h.env.2.keep hm.stay⟩, h.size, h.defers⟩
 | some d =>
  have hd' : d < N := by simpa using hd
  refine ⟨⟨fun s => ?_, h.env.2.keep hm.stay⟩, by simp [Act.put, h.size], h.defers⟩
  show Rep c' w' (get ((d, x) :: e) s) ((a.tmps.setIfInBounds d v).getD s undef)
  rw [get_cons]
  by_cases hs : d = s
  ·subst hs
   rw [if_pos rfl]
   have : (a.tmps.setIfInBounds d v).getD d undef = v := by
    simp [Array.getD, h.size, hd']
   rw [this]; exact hx
  ·rw [if_neg hs]
   have : (a.tmps.setIfInBounds d v).getD s undef = a.tmps.getD s undef := by
    simp [Array.getElem?_setIfInBounds_ne hs]
   rw [this]; exact Rep.mono hm (h.env.1 s)

theorem vop_sound {β : Nat → Nat → Option (Nat × Nat)} {H : List Ob} {F : Nat → Prop} {w : World} {a : Act} {e : Env} {K : TV → List Ob → Prop} (hs : Sim ⟨β, H, F⟩ w) (he : EnvOk ⟨β, H, F⟩ w e a) {op : Op} {vo : VOp} (ht : trV P op = some vo) (h : vop P vo e H K) : Does P β H F w a K op := by
 unfold trV at ht
 split at ht
 ·rename_i po hp; cases ht
  exact Yields.does hs fun ty => pop_sound hs he hp h
 ·obtain ⟨so, hso, rfl⟩ := Option.map_eq_some_iff.1 ht
  exact sop_sound hs he hso h

/-- What is asked of a reading of operations. -/
def DoesP (P : Program) (β : Nat → Nat → Option (Nat × Nat)) (H : List Ob) (F : Nat → Prop) (w : World) (a : Act) (K : TV → List Ob → Prop) (KP : Value → List Ob → Prop) (op : Op) : Prop :=
 ∀ (o : Oper) (KK : Act → World → Prop) (Q : Exit → Act → World → Prop), o.op = op → (∀ c, op ≠ .defer c) →
  (∀ x H' β' F' w' v, K x H' → Sim ⟨β', H', F'⟩ w' → Later ⟨β, H, F⟩ w ⟨β', H', F'⟩ w' → Rep ⟨β', H', F'⟩ w' x v → KK (a.put o.dst v) w') →
  (∀ u H' β' F' w', KP u H' → Sim ⟨β', H', F'⟩ w' → Later ⟨β, H, F⟩ w ⟨β', H', F'⟩ w' → Q (.panic [{ v := u, recovered := false }]) a w') → OW P o a w KK Q
def WSound (P : Program) (W : VOp → Env → List Ob → (TV → List Ob → Prop) → Prop) (KP : Value → List Ob → Prop) : Prop :=
 ∀ {β : Nat → Nat → Option (Nat × Nat)} {H : List Ob} {F : Nat → Prop} {w : World} {a : Act} {e : Env} {K : TV → List Ob → Prop}, Sim ⟨β, H, F⟩ w → EnvOk ⟨β, H, F⟩ w e a → ∀ {op : Op} {vo : VOp}, trV P op = some vo → W vo e H K → DoesP P β H F w a K KP op
theorem WSound.vop {KP : Value → List Ob → Prop} : WSound P (vop P) KP := fun hs he _ _ ht h o KK Q ho hn hk _ => vop_sound hs he ht h o KK Q ho hn hk

theorem yielded_is {ops : Array Oper} {a : Act} {j s : Nat} (hj : (ops[j]?).bind (·.dst) = some s) : yielded ops a.tmps j = isB (a.tmps.getD s undef) := by
 unfold yielded
 rw [hj]
 simp only [Option.bind_some]
 rw [Array.getD_eq_getD_getElem?]
 cases h : a.tmps[s]? with
 | none => rfl
 | some v => cases v <;> rfl
theorem Fr.know {N : Nat} {D : List Deferred} {c : Ctx} {w : World} {e : Env} {a : Act} (h : Fr N D c w e a) (s : Nat) : Fr N D c w ((s, .val (a.tmps.getD s undef)) :: e) a :=
 ⟨⟨fun s' => by
  rw [get_cons]
  split
  ·rename_i hs; subst hs; exact Rep.of_val
  ·exact h.env.1 s', h.env.2⟩, h.size, h.defers⟩
theorem knowB_sound {N : Nat} {D : List Deferred} {c : Ctx} {w : World} {e : Env} {a : Act} {s : Nat} {K : Env → Option Bool → Prop} (hf : Fr N D c w e a) (h : knowB e s K) : ∃ e', Fr N D c w e' a ∧ K e' (isB (a.tmps.getD s undef)) := by
 unfold knowB at h
 split at h
 ·rename_i v hv
  have := hf.env.1 s
  rw [hv, Rep.val] at this
  exact ⟨e, hf, by rw [this]; exact h⟩
 ·refine ⟨_, hf.know s, ?_⟩
  cases hb : isB (a.tmps.getD s undef) with
  | none => exact h.2 _ hb
  | some t =>
   have : a.tmps.getD s undef = .bool t := by
    generalize a.tmps.getD s undef = v at hb
    cases v <;> simp [isB] at hb
    rw [hb]
   rw [this]; exact h.1 t
 ·exact h.elim

theorem trV_nd {op : Op} {v : VOp} (h : trV P op = some v) : ∀ c, op ≠ .defer c := by
 intro c hc; subst hc; simp [trV, trP, trS] at h

theorem put_slot {a : Act} {dst : Option Nat} {v : Value} {s : Nat} (h : dst ≠ some s) : (a.put dst v).tmps.getD s undef = a.tmps.getD s undef := by
 cases dst with
 | none => rfl
 | some d =>
  have hd : d ≠ s := fun e => h (by rw [e])
  show (a.tmps.setIfInBounds d v).getD s undef = _
  simp only [Array.getD_eq_getD_getElem?]
  rw [Array.getElem?_setIfInBounds_ne hd]
/-- What is known of the slots that the operations do not fill. -/
def dropE (l : List VO) (e : Env) : Env := e.filter fun p => l.all fun o => o.dst != some p.1
theorem get_dropE {l : List VO} : ∀ (e : Env) (s : Nat), get (dropE l e) s = if l.all (fun o => o.dst != some s) then get e s else .any
 | [], s => by simp [dropE, get]
 | (k, x) :: e, s => by
  have ih := get_dropE (l := l) e s
  unfold dropE at ih ⊢
  rw [List.filter_cons]
  by_cases hk : l.all (fun o => o.dst != some k) = true
  ·rw [if_pos hk, get_cons, get_cons, ih]
   by_cases e1 : k = s
   ·subst e1; rw [if_pos rfl, if_pos hk, if_pos rfl]
   ·rw [if_neg e1, if_neg e1]
  ·rw [if_neg hk, ih, get_cons]
   by_cases e1 : k = s
   ·subst e1; rw [if_neg hk, if_neg hk]
   ·rw [if_neg e1]
theorem trL_dst {P : Program} {N : Nat} {all : List Oper} : ∀ {os : List Oper} {l : List VO}, trL P N all os = some l → l.map (·.dst) = os.map (·.dst)
 | [], l, h => by simp only [trL, Option.some.injEq] at h; subst h; rfl
 | o :: os, l, h => by
  rw [trL] at h
  split at h
  ·split at h
   ·rename_i r _ _ hr _
    cases h
    simp [trL_dst hr]
   ·cases h
  ·cases h
theorem Fr.drop {N : Nat} {D : List Deferred} {c c' : Ctx} {w w' : World} {e : Env} {a a' : Act} (hf : Fr N D c w e a) (hm : Mono c w c' w') (h0 : Fr N D c' w' [] a') {all : List Oper} {os : List Oper} {l : List VO} (ht : trL P N all os = some l) (h : ∀ s, (∀ o ∈ os, o.dst ≠ some s) → a'.tmps.getD s undef = a.tmps.getD s undef) : Fr N D c' w' (dropE l e) a' := by
 refine ⟨⟨fun s => ?_, h0.env.2⟩, h0.size, h0.defers⟩
 rw [get_dropE]
 split
 ·rename_i hl
  rw [h s fun o ho e1 => ?_]
  ·exact Rep.mono hm (hf.env.1 s)
  ·have : some s ∈ l.map (·.dst) := by rw [trL_dst ht]; exact List.mem_map.2 ⟨o, ho, e1⟩
   obtain ⟨v, hv, hv2⟩ := List.mem_map.1 this
   have := List.all_eq_true.1 hl v hv
   rw [hv2] at this
   simp at this
 ·exact Rep.any
theorem wops_soundK {W : VOp → Env → List Ob → (TV → List Ob → Prop) → Prop} {KP : Value → List Ob → Prop} (hW : WSound P W KP) {N : Nat} {D : List Deferred} {ro : Option Nat} {nn : Nat} {all : Array Oper} {rest : List Oper} : ∀ {os : List Oper} {l : List VO}, trL P N all.toList os = some l → ∀ {K : Env → List Ob → Prop} {e : Env} {H : List Ob} {β : Nat → Nat → Option (Nat × Nat)} {F : Nat → Prop} {w : World} {a : Act} {QQ : Exit → Act → World → Prop},
  wops W l K e H → Sim ⟨β, H, F⟩ w → Fr N D ⟨β, H, F⟩ w e a →
  (∀ e' H' β' F' w' a', K e' H' → Sim ⟨β', H', F'⟩ w' → Fr N D ⟨β', H', F'⟩ w' e' a' → Later ⟨β, H, F⟩ w ⟨β', H', F'⟩ w' → wpListIn (fz ro) nn P all QQ rest a' w') →
  (∀ u H' β' F' w' a', KP u H' → Sim ⟨β', H', F'⟩ w' → Fr N D ⟨β', H', F'⟩ w' [] a' → (∀ s, (∀ o ∈ os, o.dst ≠ some s) → a'.tmps.getD s undef = a.tmps.getD s undef) → Later ⟨β, H, F⟩ w ⟨β', H', F'⟩ w' → QQ (.panic [{ v := u, recovered := false }]) a' w') → wpListIn (fz ro) nn P all QQ (os ++ rest) a w
 | [], l, ht, K, e, H, β, F, w, a, QQ, h, hs, hf, hk, hp => by
  simp only [trL, Option.some.injEq] at ht; subst ht
  exact hk e H β F w a h hs hf (Later.refl _ _)
 | o :: os, l, ht, K, e, H, β, F, w, a, QQ, h, hs, hf, hk, hp => by
  rw [trL] at ht
  split at ht
  ·rename_i v g r hv hg hr
   split at ht
   ·rename_i hd
    cases ht
    have go : W v e H (fun x H => wops W r K (putE e o.dst x) H) → o.wpIn (fz ro) nn P a w (wpListIn (fz ro) nn P all QQ (os ++ rest)) QQ := fun h => by
     refine hW hs hf.env hv h o _ QQ rfl (trV_nd hv) ?_ (fun u H' β' F' w' hK hs' hl => hp u H' β' F' w' a hK hs' ⟨⟨fun _ => Rep.any, hs'.glob⟩, hf.size, hf.defers⟩ (fun _ _ => rfl) hl) ro nn
     intro x H' β' F' w' u hK hs' hl hx
     have hm := hl.mono hs
     exact wops_soundK hW hr hK hs' (hf.put hm hd hx) (fun e' H'' β'' F'' w'' a' k1 k2 k3 k4 => hk _ _ _ _ _ _ k1 k2 k3 (hl.trans k4)) fun u H'' β'' F'' w'' a' k1 k2 k3 k5 k4 => hp _ _ _ _ _ _ k1 k2 k3 (fun s hs => (k5 s fun o ho => hs o (List.mem_cons_of_mem _ ho)).trans (put_slot (hs o (by simp)))) (hl.trans k4)
    rw [List.cons_append, wpListIn]
    have hgd := hg
    rw [wops] at h
    cases hog : o.guard with
    | none =>
     rw [hog] at hg
     simp only [trG, Option.some.injEq] at hg; subst hg
     have : Region.wanted o (yielded all a.tmps) = true := by simp [Region.wanted, hog]
     rw [if_pos this]
     exact go h
    | some jb =>
     obtain ⟨j, b⟩ := jb
     rw [hog] at hg
     simp only [trG] at hg
     split at hg
     ·rename_i s hj
      cases hg
      simp only at h
      obtain ⟨e', hf', h⟩ := knowB_sound hf h
      have hy : yielded all a.tmps j = isB (a.tmps.getD s undef) := yielded_is (by simpa using hj)
      have skip : wops W r K (putE e' o.dst (.val undef)) H → wpListIn (fz ro) nn P all QQ (os ++ rest) (a.put o.dst undef) w := fun h => wops_soundK hW hr h hs (hf'.put ⟨fun b hb => ⟨hb, rfl⟩, fun _ _ h => ⟨h, rfl⟩, fun _ _ => rfl⟩ hd Rep.of_val) hk fun u H'' β'' F'' w'' a' k1 k2 k3 k5 k4 => hp _ _ _ _ _ _ k1 k2 k3 (fun s hs => (k5 s fun o ho => hs o (List.mem_cons_of_mem _ ho)).trans (put_slot (hs o (by simp)))) k4
      have go' : W v e' H (fun x H => wops W r K (putE e' o.dst x) H) → o.wpIn (fz ro) nn P a w (wpListIn (fz ro) nn P all QQ (os ++ rest)) QQ := fun h => by
       refine hW hs hf'.env hv h o _ QQ rfl (trV_nd hv) ?_ (fun u H' β' F' w' hK hs' hl => hp u H' β' F' w' a hK hs' ⟨⟨fun _ => Rep.any, hs'.glob⟩, hf.size, hf.defers⟩ (fun _ _ => rfl) hl) ro nn
       intro x H' β' F' w' u hK hs' hl hx
       have hm := hl.mono hs
       exact wops_soundK hW hr hK hs' (hf'.put hm hd hx) (fun e' H'' β'' F'' w'' a' k1 k2 k3 k4 => hk _ _ _ _ _ _ k1 k2 k3 (hl.trans k4)) fun u H'' β'' F'' w'' a' k1 k2 k3 k5 k4 => hp _ _ _ _ _ _ k1 k2 k3 (fun s hs => (k5 s fun o ho => hs o (List.mem_cons_of_mem _ ho)).trans (put_slot (hs o (by simp)))) (hl.trans k4)
      cases hq : isB (a.tmps.getD s undef) with
      | some t =>
       rw [hq] at h hy
       by_cases htb : t = b
       ·subst htb
        have : Region.wanted o (yielded all a.tmps) = true := by simp [Region.wanted, hog, hy]
        rw [if_pos this]
        simp only [if_true] at h
        exact go' h
       ·have : ¬ (Region.wanted o (yielded all a.tmps) = true) := by simp [Region.wanted, hog, hy, htb]
        rw [if_neg this]
        simp only [htb, if_false] at h
        exact ⟨fun _ _ => trivial, skip h⟩
      | none =>
       rw [hq] at h hy
       have : ¬ (Region.wanted o (yielded all a.tmps) = true) := by simp [Region.wanted, hog, hy]
       rw [if_neg this]
       exact ⟨fun _ _ => trivial, skip h⟩
     ·cases hg
   ·cases ht
  ·cases ht

theorem wops_sound' {W : VOp → Env → List Ob → (TV → List Ob → Prop) → Prop} {KP : Value → List Ob → Prop} (hW : WSound P W KP) {N : Nat} {D : List Deferred} {ro : Option Nat} {nn : Nat} {all : Array Oper} {rest : List Oper} {os : List Oper} {l : List VO} (ht : trL P N all.toList os = some l) {K : Env → List Ob → Prop} {e : Env} {H : List Ob} {β : Nat → Nat → Option (Nat × Nat)} {F : Nat → Prop} {w : World} {a : Act} {QQ : Exit → Act → World → Prop}
  (h : wops W l K e H) (hs : Sim ⟨β, H, F⟩ w) (hf : Fr N D ⟨β, H, F⟩ w e a)
  (hk : ∀ e' H' β' F' w' a', K e' H' → Sim ⟨β', H', F'⟩ w' → Fr N D ⟨β', H', F'⟩ w' e' a' → Later ⟨β, H, F⟩ w ⟨β', H', F'⟩ w' → wpListIn (fz ro) nn P all QQ rest a' w')
  (hp : ∀ u H' β' F' w' a', KP u H' → Sim ⟨β', H', F'⟩ w' → Fr N D ⟨β', H', F'⟩ w' [] a' → Later ⟨β, H, F⟩ w ⟨β', H', F'⟩ w' → QQ (.panic [{ v := u, recovered := false }]) a' w') : wpListIn (fz ro) nn P all QQ (os ++ rest) a w :=
 wops_soundK hW ht h hs hf hk fun u H' β' F' w' a' k1 k2 k3 _ k4 => hp u H' β' F' w' a' k1 k2 k3 k4

theorem vops_sound {N : Nat} {D : List Deferred} {ro : Option Nat} {nn : Nat} {all : Array Oper} {os : List Oper} {l : List VO} (ht : trL P N all.toList os = some l) {K : Env → List Ob → Prop} {e : Env} {H : List Ob} {β : Nat → Nat → Option (Nat × Nat)} {F : Nat → Prop} {w : World} {a : Act} {QQ : Exit → Act → World → Prop}
  (h : vops P l K e H) (hs : Sim ⟨β, H, F⟩ w) (hf : Fr N D ⟨β, H, F⟩ w e a)
  (hk : ∀ e' H' β' F' w' a', K e' H' → Sim ⟨β', H', F'⟩ w' → Fr N D ⟨β', H', F'⟩ w' e' a' → Later ⟨β, H, F⟩ w ⟨β', H', F'⟩ w' → QQ .normal a' w') : wpListIn (fz ro) nn P all QQ os a w := by
 have := wops_sound' (WSound.vop (KP := fun _ _ => False)) (rest := []) (QQ := QQ) (ro := ro) (nn := nn) ht h hs hf hk (fun _ _ _ _ _ _ h => h.elim)
 rwa [List.append_nil] at this

theorem trV_s {op : Op} {so : SOp} (h : trV P op = some (.s so)) : trS P op = some so := by
 unfold trV at h
 split at h
 ·cases h
 ·obtain ⟨x, h1, h2⟩ := Option.map_eq_some_iff.1 h
  cases h2; exact h1
theorem trV_call {op : Op} {f : FuncId} {xs : List Opd} (h : trV P op = some (.s (.call f xs))) : isGo P f = true ∧ ∃ (args : List Operand) (ts : Array TypeId), xs = args.map trO ∧ op = .call { callee := .value (.func f), args := args.toArray, argTypes := ts } := by
 replace h := trV_s h
 cases op
 case call c =>
  obtain ⟨callee, cargs, cts⟩ := c
  simp only [trS] at h
  split at h
  ·(repeat' split at h) <;> simp at h
  ·(repeat' split at h) <;> simp at h
  ·rename_i g args _
   split at h
   ·rename_i hgo
    split at h
    ·split at h
     ·simp at h
     ·simp only [Option.some.injEq, SOp.call.injEq] at h
      obtain ⟨rfl, rfl⟩ := h
      refine ⟨hgo, cargs.toList, cts, ?_, by simp⟩
      simp [*]
    ·simp only [Option.some.injEq, SOp.call.injEq] at h
     obtain ⟨rfl, rfl⟩ := h
     exact ⟨hgo, cargs.toList, cts, rfl, by simp⟩
   ·simp at h
  ·simp at h
  ·simp at h
 case next x b => cases b <;> simp [trS] at h
 all_goals (simp only [trS] at h; (repeat' split at h) <;> first | (simp at h; done) | skip)
theorem trV_pan {op : Op} {x : Opd} (h : trV P op = some (.s (.pan x))) : ∃ y, x = trO y ∧ op = .panic y := by
 replace h := trV_s h
 cases op
 case panic y => simp only [trS, Option.some.injEq, SOp.pan.injEq] at h; exact ⟨y, h.symm, rfl⟩
 case next x b => cases b <;> simp [trS] at h
 all_goals (simp only [trS] at h; (repeat' split at h) <;> first | (simp at h; done) | skip)
theorem pcall_sound {β : Nat → Nat → Option (Nat × Nat)} {H : List Ob} {F : Nat → Prop} {w : World} {a : Act} {e : Env} {R : TV → List Ob → Prop} {RP : Value → List Ob → Prop} {o : Oper} {KK : Act → World → Prop} {Q : Exit → Act → World → Prop} (hs : Sim ⟨β, H, F⟩ w) (he : EnvOk ⟨β, H, F⟩ w e a) {f : FuncId} (hg : isGo P f = true) {args : List Operand} {ts : Array TypeId} (ho : o.op = .call { callee := .value (.func f), args := args.toArray, argTypes := ts })
  (ht : ∀ x ∈ args.map trO, isTup (x.ev e) = false) (h : VCallsP P f ((args.map trO).map (·.ev e)) H R RP)
  (hk : ∀ x H' β' F' w' v, R x H' → Sim ⟨β', H', F'⟩ w' → Later ⟨β, H, F⟩ w ⟨β', H', F'⟩ w' → Rep ⟨β', H', F'⟩ w' x v → KK (a.put o.dst v) w')
  (hp : ∀ u H' β' F' w', RP u H' → Sim ⟨β', H', F'⟩ w' → Later ⟨β, H, F⟩ w ⟨β', H', F'⟩ w' → Q (.panic [{ v := u, recovered := false }]) a w') : OW P o a w KK Q := by
 have hv := repL_map he args fun x hx => ht _ (List.mem_map_of_mem hx)
 refine OW.of_wp (by rw [ho]; simp) ?_
 have := h β F w _ hs hv
 unfold Oper.wp
 simp only [execOp, ho, resolve, Act.eval, Deferred.ofValue, Sem.run_bind, Sem.run_pure, Result.andThen_ok, invoke, callFunc_go hg]
 rw [Oper.upon_enter]
 have e1 : (args.map a.eval).toArray ++ #[] = (args.map a.eval).toArray := by simp
 refine Calls.mono (R := fun e w' => ∃ β' H' F', Sim ⟨β', H', F'⟩ w' ∧ Later ⟨β, H, F⟩ w ⟨β', H', F'⟩ w' ∧ ((∃ v x, e = .returned v ∧ R x H' ∧ Rep ⟨β', H', F'⟩ w' x v) ∨ ∃ u, e = .panicked [{ v := u, recovered := false }] ∧ RP u H')) (by simpa using this) ?_
 rintro e' w' ⟨β', H', F', h1, h2, ⟨v, x, rfl, h3, h4⟩ | ⟨u, rfl, h3⟩⟩
 ·exact hk _ _ _ _ _ _ h3 h1 h2 h4
 ·exact hp _ _ _ _ _ h3 h1 h2
theorem WSound.pvop {KP : Value → List Ob → Prop} : WSound P (pvop P KP) KP := by
 intro β H F w a e K hs he op vo ht h o KK Q ho hn hk hp
 unfold Go.Proofs.YtfgljddikcghhaaDoor.pvop at h
 split at h
 ·rename_i f xs
  obtain ⟨h1, h2⟩ := h
  obtain ⟨hgo, args, ts, rfl, hop⟩ := trV_call ht
  exact pcall_sound hs he hgo (ho.trans hop) h1 h2 hk hp
 ·rename_i x
  obtain ⟨y, rfl, hop⟩ := trV_pan ht
  split at h
  ·rename_i t v hx
   have hev : a.eval y = .iface t v := he.val hx
   refine OW.of_wp (by rw [ho]; exact hn) ?_
   unfold Oper.wp
   simp only [execOp, ho.trans hop, hev, Sem.run_bind]
   exact hp _ _ _ _ _ h hs (Later.refl _ _)
  ·rename_i t v hx
   have hev : a.eval y = .iface t v := by
    have hr := he.rep (x := y) hx
    have h1 := hr.inv1 (by simp) (by simp) (by simp) (by simp) (by simp)
    rw [RepC] at h1
    obtain ⟨u, hu, vs, h2, rfl⟩ := h1
    rw [RepC] at h2
    obtain ⟨rfl, _⟩ := h2
    simpa [mkV] using hu
   refine OW.of_wp (by rw [ho]; exact hn) ?_
   unfold Oper.wp
   simp only [execOp, ho.trans hop, hev, Sem.run_bind]
   exact hp _ _ _ _ _ h hs (Later.refl _ _)
  ·exact h.elim
 ·exact vop_sound hs he ht h o KK Q ho hn hk
theorem pvops_sound {N : Nat} {D : List Deferred} {ro : Option Nat} {nn : Nat} {all : Array Oper} {os : List Oper} {l : List VO} (ht : trL P N all.toList os = some l) {K : Env → List Ob → Prop} {KP : Value → List Ob → Prop} {e : Env} {H : List Ob} {β : Nat → Nat → Option (Nat × Nat)} {F : Nat → Prop} {w : World} {a : Act} {QQ : Exit → Act → World → Prop}
  (h : pvops P KP l K e H) (hs : Sim ⟨β, H, F⟩ w) (hf : Fr N D ⟨β, H, F⟩ w e a)
  (hk : ∀ e' H' β' F' w' a', K e' H' → Sim ⟨β', H', F'⟩ w' → Fr N D ⟨β', H', F'⟩ w' e' a' → Later ⟨β, H, F⟩ w ⟨β', H', F'⟩ w' → QQ .normal a' w')
  (hp : ∀ u H' β' F' w' a', KP u H' → Sim ⟨β', H', F'⟩ w' → Fr N D ⟨β', H', F'⟩ w' (dropE l e) a' → Later ⟨β, H, F⟩ w ⟨β', H', F'⟩ w' → QQ (.panic [{ v := u, recovered := false }]) a' w') : wpListIn (fz ro) nn P all QQ os a w := by
 have := wops_soundK (WSound.pvop (KP := KP)) (rest := []) (QQ := QQ) (ro := ro) (nn := nn) ht h hs hf hk fun u H' β' F' w' a' k1 k2 k3 k5 k4 => hp u H' β' F' w' a' k1 k2 (hf.drop (k4.mono hs) k3 ht k5) k4
 rwa [List.append_nil] at this

end sound
end Go.Proofs.YtfgljddikcghhaaDoor

namespace Go.Proofs.YtfgljddikcghhaaDoor
open Go.RowKit
variable [Globs]
set_option linter.unusedSectionVars false
set_option linter.unusedSimpArgs false
set_option linter.unusedVariables false
set_option autoImplicit false

def preds (o : Oper) : List Nat := (o.after.toList.filter (Region.binds .any)).map (·.on)
def maskOf (ps : List Nat) (acc : List Nat) : Nat := ps.foldl (fun s p => s ||| 2 ^ p ||| acc.getD p 0) 0
def clsGo : List Oper → List Nat → List Nat
 | [], acc => acc
 | o :: r, acc => clsGo r (acc ++ [maskOf (preds o) acc])
def cls (ops : List Oper) : List Nat := clsGo ops []

/-- A set of numbers that has what stands ahead of each. -/
def Closed (ops : List Oper) (S : Nat → Prop) : Prop := ∀ i o, ops[i]? = some o → S i → ∀ p ∈ preds o, S p

theorem maskOf_bits {ps acc : List Nat} {k : Nat} (h : (maskOf ps acc).testBit k = true) : ∃ p ∈ ps, k = p ∨ (acc.getD p 0).testBit k = true := by
 unfold maskOf at h
 have key : ∀ (ps : List Nat) (s : Nat), (ps.foldl (fun s p => s ||| 2 ^ p ||| acc.getD p 0) s).testBit k = true → s.testBit k = true ∨ ∃ p ∈ ps, k = p ∨ (acc.getD p 0).testBit k = true := by
  intro ps
  induction ps with
  | nil => intro s h; exact .inl h
  | cons p ps ih =>
   intro s h
   rcases ih _ h with h1 | ⟨q, hq, h1⟩
   ·rw [Nat.testBit_or, Nat.testBit_or, Bool.or_eq_true, Bool.or_eq_true] at h1
    rcases h1 with (h1 | h1) | h1
    ·exact .inl h1
    ·rw [Nat.testBit_two_pow] at h1
     exact .inr ⟨p, by simp, .inl (by simpa using h1 : p = k).symm⟩
    ·exact .inr ⟨p, by simp, .inr h1⟩
   ·exact .inr ⟨q, by simp [hq], h1⟩
 rcases key ps 0 h with h | h
 ·simp at h
 ·exact h

theorem clsGo_spec {all : List Oper} : ∀ (rest done : List Oper) (acc : List Nat), all = done ++ rest → acc.length = done.length →
  (∀ (j m : Nat) (o : Oper), acc[j]? = some m → all[j]? = some o → ∀ S, Closed all S → (∀ p ∈ preds o, S p) → ∀ k, m.testBit k = true → S k) →
  (clsGo rest acc).length = all.length ∧ ∀ (j m : Nat) (o : Oper), (clsGo rest acc)[j]? = some m → all[j]? = some o → ∀ S, Closed all S → (∀ p ∈ preds o, S p) → ∀ k, m.testBit k = true → S k
 | [], done, acc, h1, h2, h3 => ⟨by rw [clsGo, h1]; simpa using h2, h3⟩
 | o :: rest, done, acc, h1, h2, h3 => by
  rw [clsGo]
  refine clsGo_spec rest (done ++ [o]) _ (by rw [h1]; simp) (by simp [h2]) ?_
  intro j m o' hm ho S hS hp k hk
  rcases Nat.lt_trichotomy j acc.length with h | h | h
  ·rw [List.getElem?_append_left h] at hm
   exact h3 j m o' hm ho S hS hp k hk
  ·subst h
   simp at hm; subst hm
   have ho' : o' = o := by
    rw [h1, h2, List.getElem?_append_right (Nat.le_refl _)] at ho
    simpa using ho.symm
   subst ho'
   obtain ⟨p, hpp, hkp⟩ := maskOf_bits hk
   rcases hkp with rfl | hkp
   ·exact hp k hpp
   ·cases hq : acc[p]? with
    | none => rw [List.getD_eq_getElem?_getD, hq] at hkp; simp at hkp
    | some mp =>
     rw [List.getD_eq_getElem?_getD, hq] at hkp
     have hpl : p < done.length := by rw [← h2]; exact (List.getElem?_eq_some_iff.1 hq).1
     have hop : all[p]? = some done[p] := by rw [h1, List.getElem?_append_left hpl]; simp [hpl]
     exact h3 p mp _ hq hop S hS (hS p _ hop (hp p hpp)) k hkp
  ·rw [List.getElem?_eq_none (by simp; omega)] at hm; cases hm

theorem cls_ok {all : List Oper} {i m : Nat} {o : Oper} (hm : (cls all)[i]? = some m) (ho : all[i]? = some o) {S : Nat → Prop} (hS : Closed all S) (hp : ∀ p ∈ preds o, S p) {k : Nat} (hk : m.testBit k = true) : S k :=
 (clsGo_spec all [] [] rfl rfl (by simp)).2 i m o hm ho S hS hp k hk
theorem cls_length (all : List Oper) : (cls all).length = all.length := (clsGo_spec all [] [] rfl rfl (by simp)).1

def SOp.rd : SOp → List Nat
 | .alloc _ | .allocT _ _ => []
 | .pan x | .box x | .s2b x | .boxT x _ | .bstr _ x | .rngS x | .nxtS x => x.rd
 | .bslice _ _ _ ps => ps.flatMap fun q => q.2.rd
 | .store _ x y | .mks _ _ _ x y | .app _ _ _ x y | .appS _ x y | .copy _ x y | .copyS x y | .ment _ _ x y => x.rd ++ y.rd
 | .call _ args => args.flatMap Opd.rd
 | .callv x args => x.rd ++ args.flatMap Opd.rd
 | .mkm _ h => rdO h
 | .mupd _ x y z | .mest x y z => x.rd ++ (y.rd ++ z.rd)
theorem sop_congr {P : Program} {o : SOp} {e e' : Env} (h : ∀ s ∈ o.rd, get e s = get e' s) (H : List Ob) (K : TV → List Ob → Prop) : sop P o e H K = sop P o e' H K := by
 have two : ∀ {x y : Opd}, (∀ s ∈ x.rd ++ y.rd, get e s = get e' s) → x.ev e = x.ev e' ∧ y.ev e = y.ev e' := fun h => ⟨ev_congr fun s hs => h s (List.mem_append_left _ hs), ev_congr fun s hs => h s (List.mem_append_right _ hs)⟩
 have tups : ∀ {xs : List Opd}, (∀ s ∈ xs.flatMap Opd.rd, get e s = get e' s) → (∀ x ∈ xs, isTup (x.ev e) = false) = (∀ x ∈ xs, isTup (x.ev e') = false) := fun {xs} h => propext
  ⟨fun k x hx => by rw [← ev_congr (e := e) (e' := e') fun s hs => h s (List.mem_flatMap.2 ⟨x, hx, hs⟩)]; exact k x hx, fun k x hx => by rw [ev_congr (e := e) (e' := e') fun s hs => h s (List.mem_flatMap.2 ⟨x, hx, hs⟩)]; exact k x hx⟩
 cases o with
 | alloc z => rfl
 | pan x => rfl
 | allocT z t => rfl
 | boxT x t => simp only [sop, ev_congr (x := x) h]
 | bstr f x => simp only [sop, ev_congr (x := x) h]
 | rngS x => simp only [sop, ev_congr (x := x) h]
 | nxtS x => simp only [sop, ev_congr (x := x) h]
 | box x => simp only [sop, ev_congr (x := x) h]
 | s2b x => simp only [sop, ev_congr (x := x) h]
 | bslice k n z ps =>
  obtain ⟨k1, k2, k3⟩ := fills_congr h (List.replicate n z) (List.replicate n k)
  simp only [sop, k1, k2, k3]
 | store sz x y => obtain ⟨h1, h2⟩ := two h; simp only [sop, h1, h2]
 | mks k b z x y => obtain ⟨h1, h2⟩ := two h; simp only [sop, h1, h2]
 | app k b et x y => obtain ⟨h1, h2⟩ := two h; simp only [sop, h1, h2]
 | appS et x y => obtain ⟨h1, h2⟩ := two h; simp only [sop, h1, h2]
 | copy k x y => obtain ⟨h1, h2⟩ := two h; simp only [sop, h1, h2]
 | copyS x y => obtain ⟨h1, h2⟩ := two h; simp only [sop, h1, h2]
 | ment kk z x y => obtain ⟨h1, h2⟩ := two h; simp only [sop, h1, h2]
 | call f args => simp only [sop, map_ev_congr (xs := args) (e := e) (e' := e') h, tups (xs := args) h]
 | callv x args =>
  have h1 := ev_congr (x := x) (e := e) (e' := e') fun s hs => h s (List.mem_append_left _ hs)
  have h2 := fun s hs => h s (List.mem_append_right x.rd hs)
  simp only [sop, h1, map_ev_congr (xs := args) (e := e) (e' := e') h2, tups (xs := args) h2]
 | mkm kk r =>
  cases r with
  | none => rfl
  | some x => simp only [sop, ev_congr (x := x) (e := e) (e' := e') h]
 | mupd kk x y z =>
  have h1 := ev_congr (x := x) (e := e) (e' := e') fun s hs => h s (List.mem_append_left _ hs)
  obtain ⟨h2, h3⟩ := two (x := y) (y := z) fun s hs => h s (List.mem_append_right x.rd hs)
  simp only [sop, h1, h2, h3]
 | mest x y z =>
  have h1 := ev_congr (x := x) (e := e) (e' := e') fun s hs => h s (List.mem_append_left _ hs)
  obtain ⟨h2, h3⟩ := two (x := y) (y := z) fun s hs => h s (List.mem_append_right x.rd hs)
  simp only [sop, h1, h2, h3]
def VO.rd (o : VO) : List Nat := (match o.op with | .p o => o.rd | .s o => o.rd) ++ (match o.g with | none => [] | some (s, _) => [s])

theorem vop_congr {P : Program} {v : VO} {e e' : Env} (h : ∀ s ∈ v.rd, get e s = get e' s) (H : List Ob) (K : TV → List Ob → Prop) : vop P v.op e H K = vop P v.op e' H K := by
 have h1 : ∀ s ∈ (match v.op with | .p o => o.rd | .s o => o.rd), get e s = get e' s := fun s hs => h s (List.mem_append_left _ hs)
 cases ho : v.op with
 | p o => rw [ho] at h1; exact pop_congr h1 H fun x => K x H
 | s o => rw [ho] at h1; exact sop_congr h1 H K

/-- It looks at no object. -/
def noH : POp → Bool
 | .b2s _ | .load _ _ _ | .slA _ _ _ _ _ | .gen _ _ => false
 | _ => true
theorem pop_noH {o : POp} (h : noH o = true) {e : Env} {H H' : List Ob} {K : TV → Prop} : pop o e H K = pop o e H' K := by
 cases o <;> first | rfl | simp [noH] at h
/-- A question to a map, by slots. -/
def lookOp : POp → Option (MK × TV × Nat × Nat)
 | .gen (.look kk z false) [.t a, .t b] => some (kk, z, a, b)
 | _ => none
theorem lookOp_spec {o : POp} {kk : MK} {z : TV} {a b : Nat} (h : lookOp o = some (kk, z, a, b)) : o = .gen (.look kk z false) [.t a, .t b] := by
 unfold lookOp at h
 split at h
 ·cases h; rfl
 ·cases h
def zSame : TV → TV → Bool
 | .val (.int k a), .val (.int k' b) => decide (k = k') && decide (a = b)
 | _, _ => false
theorem zSame_spec {x y : TV} (h : zSame x y = true) : x = y := by
 unfold zSame at h
 split at h
 ·simp only [Bool.and_eq_true, decide_eq_true_eq] at h; rw [h.1, h.2]
 ·cases h
/-- What is looked at, by a slot. -/
def loadOp : POp → Option Nat
 | .load _ _ (.t s) => some s
 | _ => none
theorem loadOp_spec {o : POp} {s : Nat} (h : loadOp o = some s) : ∃ ag sz, o = .load ag sz (.t s) := by
 unfold loadOp at h
 split at h
 ·cases h; exact ⟨_, _, rfl⟩
 ·cases h
/-- The slots that are looked through. -/
def ssOf (l : List VO) : List Nat := l.filterMap fun v => match v.op with
 | .p o => loadOp o
 | _ => none
/-- What these slots point to is as it was. -/
def Kept (Ss : List Nat) (e : Env) (H H' : List Ob) : Prop := ∀ s ∈ Ss, ∀ id ver p, get e s = .op id ver p → H'[id]? = H[id]?
theorem Kept.nil {e : Env} {H H' : List Ob} : Kept [] e H H' := fun _ h => by cases h
/-- What may be done while a question to a map is still to be asked: nothing but that key's entry changes. -/
def calmOp (Ss : List Nat) (o : POp) : VOp → Bool
 | .p _ => true
 | .s (.alloc _) | .s (.bstr _ _) | .s (.bslice _ _ _ _) | .s (.s2b _) | .s (.mks _ _ _ _ _) => true
 | .s (.call _ _) => (match loadOp o with
  | some s => Ss.contains s
  | none => false)
 | .s (.store _ _ _) => (match loadOp o with
  | some s => Ss.contains s
  | none => false)
 | .s (.ment kk' z' (.t a') (.t b')) => (match lookOp o with
  | some (kk, z, a, b) => decide (kk' = kk) && zSame z' z && decide (a' = a) && decide (b' = b)
  | none => false)
 | _ => false
/-- What becomes of the objects. -/
def HRel (Ss : List Nat) (u : VOp) (e : Env) (H H' : List Ob) : Prop := match u with
 | .p _ => H' = H
 | .s (.alloc _) | .s (.bslice _ _ _ _) | .s (.s2b _) | .s (.mks _ _ _ _ _) => ∃ o, H' = H ++ [o]
 | .s (.call _ _) => Kept Ss e H H'
 | .s (.store _ _ _) => Kept Ss e H H'
 | .s (.bstr _ _) => ∃ j v t l, H[j]? = some (.bld v t l) ∧ H' = H.set j (.gone v)
 | .s (.ment kk z x y) => ∃ id kb es, x.ev e = .mp id 0 ∧ kBytes kk (y.ev e) = some kb ∧ H[id]? = some (.mpo kk es) ∧ H' = H.set id (.mpo kk (mput kb ((mget kb es).getD z) es))
 | _ => True
theorem vop_rel {P : Program} {u : VOp} {e : Env} {H : List Ob} {K : TV → List Ob → Prop} (h : vop P u e H K) : vop P u e H (fun x H' => K x H' ∧ HRel [] u e H H') := by
 cases u with
 | p o =>
  have h' : pop o e H fun x => K x H := h
  obtain ⟨x, h1, h2⟩ := pop_det h'
  exact h1 (fun x => K x H ∧ H = H) ⟨h2, rfl⟩
 | s o =>
  cases o with
  | alloc z => exact ⟨h, _, rfl⟩
  | bslice k n z ps => exact ⟨h.1, h.2, _, rfl⟩
  | s2b x =>
   have h' : sop P (.s2b x) e H K := h
   show sop P (.s2b x) e H fun v H' => K v H' ∧ HRel [] (.s (.s2b x)) e H H'
   simp only [sop] at h' ⊢
   split at h'
   ·exact ⟨h'.1, h'.2, _, rfl⟩
   ·exact h'.elim
  | mks k by' z x y =>
   have h' : sop P (.mks k by' z x y) e H K := h
   show sop P (.mks k by' z x y) e H fun v H' => K v H' ∧ HRel [] (.s (.mks k by' z x y)) e H H'
   simp only [sop] at h' ⊢
   split at h'
   ·exact ⟨h'.1, h'.2, _, rfl⟩
   ·exact h'.elim
  | call f args =>
   have e1 : (fun x H' => K x H' ∧ HRel [] (.s (.call f args)) e H H') = K := funext fun x => funext fun H' => propext ⟨fun h => h.1, fun h => ⟨h, Kept.nil⟩⟩
   rw [e1]; exact h
  | store sz y z =>
   have e1 : (fun x H' => K x H' ∧ HRel [] (.s (.store sz y z)) e H H') = K := funext fun x => funext fun H' => propext ⟨fun h => h.1, fun h => ⟨h, Kept.nil⟩⟩
   rw [e1]; exact h
  | bstr f x =>
   have h' : sop P (.bstr f x) e H K := h
   show sop P (.bstr f x) e H fun v H' => K v H' ∧ HRel [] (.s (.bstr f x)) e H H'
   simp only [sop] at h' ⊢
   refine ⟨h'.1, ?_⟩
   have h2 := h'.2
   split at h2
   ·rename_i j v l hr
    obtain ⟨_, _, _, _, _, _, _, _, _, _, h5⟩ := rowOf_spec hr
    exact ⟨h2.1, h2.2, j, v, _, l, h5, rfl⟩
   ·exact h2.elim
  | ment kk z x y =>
   have h' : sop P (.ment kk z x y) e H K := h
   show sop P (.ment kk z x y) e H fun v H' => K v H' ∧ HRel [] (.s (.ment kk z x y)) e H H'
   simp only [sop] at h' ⊢
   split at h'
   ·rename_i id kb hx hy
    split at h'
    ·rename_i kk' es hid
     obtain ⟨rfl, h'⟩ := h'
     simp only [hid, true_and]
     exact ⟨h', id, kb, es, hx, hy, hid, rfl⟩
    ·exact h'.elim
   ·exact h'.elim
  | _ =>
   have e1 : (fun x H' => K x H' ∧ True) = K := funext fun x => funext fun H' => propext ⟨fun h => h.1, fun h => ⟨h, trivial⟩⟩
   rw [← e1] at h; exact h
theorem mget_mputL {k : List UInt8} {x : TV} : ∀ {es : List (List UInt8 × TV)}, mget k (mput k x es) = some x
 | [] => by simp [mput, mget]
 | (q, y) :: es => by
  rw [mput]
  by_cases hq : q = k
  ·subst hq; simp [mget]
  ·rw [if_neg hq, mget, if_neg hq, mget_mputL]
theorem elemsOf_append {H : List Ob} {k : Nat} {x : TV} {cs : List TV} {o : Ob} (h : elemsOf H k x = some cs) : elemsOf (H ++ [o]) k x = some cs := by
 cases x with
 | os k' id ver p off n cp =>
  simp only [elemsOf] at h ⊢
  split at h
  ·rename_i hk
   split at h
   ·rename_i v y hid
    rw [List.getElem?_append_left (List.getElem?_eq_some_iff.1 hid).1, hid]
    simp only [hk, if_true]
    exact h
   ·cases h
  ·cases h
 | _ => first | exact h | (simp [elemsOf] at h)
theorem elemsOf_gone {H : List Ob} {k j v : Nat} {t : TypeId} {l : List UInt8} {x : TV} {cs : List TV} (hj : H[j]? = some (.bld v t l)) (h : elemsOf H k x = some cs) : elemsOf (H.set j (.gone v)) k x = some cs := by
 cases x with
 | os k' id ver p off n cp =>
  simp only [elemsOf] at h ⊢
  split at h
  ·rename_i hk
   split at h
   ·rename_i v2 y hid
    have hne : j ≠ id := fun e => by subst e; rw [hj] at hid; cases hid
    rw [List.getElem?_set_ne hne, hid]
    simp only [hk, if_true]
    exact h
   ·cases h
  ·cases h
 | _ => first | exact h | (simp [elemsOf] at h)
/-- What looks at objects looks at the same where those are that are looked at. -/
theorem pop_keep {o : POp} {e : Env} {H H' : List Ob} {K : TV → Prop} (hk : ∀ (id : Nat) ob, H[id]? = some ob → (∀ v t l, ob ≠ .bld v t l) → H'[id]? = some ob) (he : ∀ k x cs, elemsOf H k x = some cs → elemsOf H' k x = some cs) (h : pop o e H K) : pop o e H' K := by
 cases o with
 | load ag sz x =>
  simp only [pop] at h ⊢
  split at h
  ·exact h
  ·split at h
   ·rename_i v y hid
    rw [hk _ _ hid (by simp)]; exact h
   ·exact h.elim
  ·exact h.elim
 | b2s x =>
  simp only [pop] at h ⊢
  split at h
  ·rename_i cs hc; rw [he _ _ _ hc]; exact h
  ·exact h.elim
 | slA n k x lo hi =>
  simp only [pop] at h ⊢
  split at h
  ·exact h
  ·split at h
   ·rename_i v y hid
    rw [hk _ _ hid (by simp)]; exact h
   ·exact h.elim
  ·exact h.elim
 | gen g xs =>
  simp only [pop] at h ⊢
  have hg : ∀ (ys : List TV) r, gev g H ys = some r → gev g H' ys = some r := by
   intro ys r hr
   unfold gev at hr ⊢
   split at hr
   ·exact hr
   ·exact hr
   ·exact hr
   ·rename_i kk z ok x k
    simp only [gLook] at hr ⊢
    split at hr
    ·split at hr
     ·rename_i id kk' es kb h1 h2
      rw [hk _ _ h1 (by simp), h2]; exact hr
     ·cases hr
    ·exact hr
    ·cases hr
   ·rename_i x
    simp only [gLenM] at hr ⊢
    split at hr
    ·split at hr
     ·rename_i h1
      rw [hk _ _ h1 (by simp)]; exact hr
     ·cases hr
    ·exact hr
    ·cases hr
   ·exact hr
   ·cases hr
  cases hgl : gev g H (xs.map (·.ev e)) with
  | none => rw [hgl] at h; exact h.elim
  | some r => rw [hgl] at h; rw [hg _ r hgl]; exact h
 | _ => exact h
/-- A question that is still to be asked is answered as before. -/
theorem calm_step {Ss : List Nat} {o : POp} {u : VOp} {e es : Env} {H H' : List Ob} {x : TV} (hf : noH o = true ∨ calmOp Ss o u = true) (hr : HRel Ss u e H H') (hes : ∀ s ∈ o.rd, get es s = get e s ∨ get es s = .any) (h : ∀ K : TV → Prop, K x → pop o es H K) : ∀ K : TV → Prop, K x → pop o es H' K := by
 intro K hK
 have app : (∃ o, H' = H ++ [o]) → pop o es H' K := by
  rintro ⟨ob, rfl⟩
  exact pop_keep (fun id ob' h1 _ => by rw [List.getElem?_append_left (List.getElem?_eq_some_iff.1 h1).1]; exact h1) (fun k x cs => elemsOf_append) (h K hK)
 rcases hf with hf | hf
 ·rw [pop_noH hf (H' := H)]; exact h K hK
 ·unfold calmOp at hf
  split at hf
  ·have hr' : H' = H := hr
   rw [hr']; exact h K hK
  ·exact app hr
  ·obtain ⟨j, v, t, l, hj, rfl⟩ := hr
   exact pop_keep (fun id ob h1 h2 => by
    have hne : j ≠ id := fun e => by subst e; rw [hj] at h1; cases h1; exact h2 _ _ _ rfl
    rw [List.getElem?_set_ne hne]; exact h1) (fun k x cs => elemsOf_gone hj) (h K hK)
  ·exact app hr
  ·exact app hr
  ·exact app hr
  ·split at hf
   ·rename_i s hl
    obtain ⟨ag, sz, rfl⟩ := loadOp_spec hl
    have h9 := h K hK
    have hs := hes s (by simp [POp.rd, Opd.rd])
    simp only [pop, Opd.ev] at h9 ⊢
    rcases hs with hs | hs
    case inr => rw [hs] at h9; exact h9.elim
    have hr' : Kept Ss e H H' := hr
    split at h9
    ·exact h9
    ·rename_i id ver p hx
     rw [hr' s (by simpa using hf) id ver p (by rw [← hs]; exact hx)]
     exact h9
    ·exact h9.elim
   ·cases hf
  ·split at hf
   ·rename_i s hl
    obtain ⟨ag, sz, rfl⟩ := loadOp_spec hl
    have h9 := h K hK
    have hs := hes s (by simp [POp.rd, Opd.rd])
    simp only [pop, Opd.ev] at h9 ⊢
    rcases hs with hs | hs
    case inr => rw [hs] at h9; exact h9.elim
    have hr' : Kept Ss e H H' := hr
    split at h9
    ·exact h9
    ·rename_i id ver p hx
     rw [hr' s (by simpa using hf) id ver p (by rw [← hs]; exact hx)]
     exact h9
    ·exact h9.elim
   ·cases hf
  ·rename_i kk' z' a' b'
   split at hf
   ·rename_i kk z a b hl
    simp only [Bool.and_eq_true, decide_eq_true_eq] at hf
    obtain ⟨⟨⟨rfl, hz⟩, rfl⟩, rfl⟩ := hf
    obtain rfl := zSame_spec hz
    have ho := lookOp_spec hl
    subst ho
    obtain ⟨id, kb, es0, h1, h2, h3, h4⟩ := hr
    have h9 := h K hK
    have hA : get e a' = .mp id 0 := h1
    have hB : kBytes kk' (get e b') = some kb := h2
    have ha := hes a' (by simp [POp.rd, Opd.rd])
    have hb := hes b' (by simp [POp.rd, Opd.rd])
    have h10 := h (fun y => y = x) rfl
    simp only [pop, gev, List.map_cons, List.map_nil, Opd.ev] at h9 h10 ⊢
    rcases ha with ha | ha
    case inr => rw [ha] at h9; simp [gLook] at h9
    rcases hb with hb | hb
    case inr => rw [ha, hA, hb] at h9; simp [gLook, kBytes] at h9
    rw [ha, hA, hb] at h9 h10 ⊢
    have hlt : id < H.length := (List.getElem?_eq_some_iff.1 h3).1
    simp only [gLook, h3, hB, if_true] at h9 h10
    rw [h4]
    simp only [gLook, List.getElem?_set_self hlt, hB, if_true, mget_mputL]
    simp only [lookT, if_false] at h9 h10 ⊢
    simpa using h9
   ·cases hf
  ·cases hf
/-- An operation that is done only if a slot says so. -/
def gpop (g : Option (Nat × Bool)) (o : POp) (e : Env) (H : List Ob) (K : TV → Prop) : Prop := match g with
 | none => pop o e H K
 | some (s, b) => match get e s with
  | .val x => if isB x = some b then pop o e H K else K (.val undef)
  | _ => False
theorem calm_stepG {Ss : List Nat} {d : Option Nat} {g : Option (Nat × Bool)} {o : POp} {u : VOp} {e es : Env} {H H' : List Ob} {x : TV} (hf : noH o = true ∨ calmOp Ss o u = true) (hr : HRel Ss u e H H') (hes : ∀ s ∈ (VO.mk d (.p o) g).rd, get es s = get e s ∨ get es s = .any) (h : ∀ K : TV → Prop, K x → gpop g o es H K) : ∀ K : TV → Prop, K x → gpop g o es H' K := by
 have hes' : ∀ s ∈ o.rd, get es s = get e s ∨ get es s = .any := fun s hs => hes s (List.mem_append_left _ hs)
 cases g with
 | none => exact calm_step hf hr hes' h
 | some sb =>
  obtain ⟨s, b⟩ := sb
  intro K hK
  have h1 := h K hK
  unfold gpop at h1 ⊢
  simp only at h1 ⊢
  split at h1
  ·rename_i v hv
   by_cases ht : isB v = some b
   ·rw [if_pos ht] at h1 ⊢
    refine calm_step hf hr hes' (x := x) (fun K hK => ?_) K hK
    have h2 := h K hK
    unfold gpop at h2
    simp only [hv, ht, if_true] at h2
    exact h2
   ·rw [if_neg ht] at h1 ⊢; exact h1
  ·exact h1.elim
/-- What looks at slots alone is done at any time: nobody else writes there; who writes what it looks at stands ahead of it, or waits for it. -/
def freeOp (Ss : List Nat) (m : List Nat) (l : List VO) (nA i : Nat) : Bool := match l[i]? with
 | some ⟨some d, .p o, g⟩ => decide (i < nA) && (noH o || ((List.range l.length).all fun j => decide (j < nA) || (m.getD j 0).testBit i || (match l[j]? with | some u => calmOp Ss o u.op | none => true))) && !(VO.mk (some d) (.p o) g).rd.contains d &&
   (List.range l.length).all fun j => j == i || (match l[j]? with | some u => (match u.dst with | some d' => d' != d && (!(VO.mk (some d) (.p o) g).rd.contains d' || decide (j < i) || (decide (nA ≤ j) && (m.getD j 0).testBit i)) | none => true) | none => true)
 | _ => false
theorem freeOp_spec {Ss : List Nat} {m : List Nat} {l : List VO} {nA i : Nat} (h : freeOp Ss m l nA i = true) : ∃ d o g, l[i]? = some ⟨some d, .p o, g⟩ ∧ i < nA ∧ (∀ (j : Nat) u, nA ≤ j → l[j]? = some u → noH o = true ∨ (m.getD j 0).testBit i = true ∨ calmOp Ss o u.op = true) ∧ ¬ d ∈ (VO.mk (some d) (.p o) g).rd ∧ ∀ (j : Nat) u d', l[j]? = some u → j ≠ i → u.dst = some d' → d' ≠ d ∧ (¬ d' ∈ (VO.mk (some d) (.p o) g).rd ∨ j < i ∨ (nA ≤ j ∧ (m.getD j 0).testBit i = true)) := by
 unfold freeOp at h
 split at h
 ·rename_i d o g hi
  simp only [Bool.and_eq_true, decide_eq_true_eq, List.all_eq_true, List.mem_range, Bool.or_eq_true, beq_iff_eq, Bool.not_eq_true', ← Bool.not_eq_true, List.contains_iff_mem] at h
  obtain ⟨⟨⟨h1, h2⟩, h3⟩, h4⟩ := h
  refine ⟨d, o, g, hi, h1, fun j u hnj hj => ?_, h3, fun j u d' hj hne hu => ?_⟩
  ·rcases h2 with h2 | h5
   ·exact .inl h2
   ·have hjl : j < l.length := (List.getElem?_eq_some_iff.1 hj).1
    have h6 := h5 j hjl
    rw [hj] at h6
    rcases h6 with (h6 | h6) | h6
    ·omega
    ·exact .inr (.inl h6)
    ·exact .inr (.inr h6)
  have hjl : j < l.length := (List.getElem?_eq_some_iff.1 hj).1
  have h5 := (h4 j hjl).resolve_left hne
  rw [hj] at h5
  simp only [hu] at h5
  simpa [or_assoc] using h5
 ·cases h
/-- What is made out of constants alone: what it holds; a pointer to it (none), or a slice of so many elements. -/
def mkOf : SOp → Option (TV × Option (Nat × Nat))
 | .alloc z => some (z, none)
 | .mks k bytes z (.c (.int _ l)) (.c (.int _ c)) => if l = c ∧ width z = k then some (.arr c.toNat k (List.replicate c.toNat z), some (k, c.toNat)) else none
 | _ => none
def mkT (q : Option (Nat × Nat)) (id : Nat) : TV := match q with
 | none => .op id 0 []
 | some (k, n) => .os k id 0 [] 0 n n
def mkVal (q : Option (Nat × Nat)) (b : Nat) : Value := match q with
 | none => .pointer (some ⟨b, 0, none⟩)
 | some (_, n) => .slice (some ⟨b, 0, none⟩) n n
/-- It can be made. -/
def mkFit : SOp → Bool
 | .mks _ bytes _ _ (.c (.int _ c)) => decide (0 ≤ c ∧ (bytes : Int) * c ≤ 281474976710656 ∧ c ≤ 9223372036854775807)
 | _ => true
theorem vop_mk {P : Program} {so : SOp} {z : TV} {q : Option (Nat × Nat)} {e : Env} {H : List Ob} {K : TV → List Ob → Prop} (hq : mkOf so = some (z, q)) (h : vop P (.s so) e H K) : K (mkT q H.length) (H ++ [.obj 0 z]) := by
 cases so with
 | alloc z0 => simp only [mkOf, Option.some.injEq, Prod.mk.injEq] at hq; obtain ⟨rfl, rfl⟩ := hq; exact h
 | mks k bytes z0 x y =>
  have h' : sop P (.mks k bytes z0 x y) e H K := h
  unfold mkOf at hq
  split at hq
  ·rename_i so' _ he; cases he
  ·rename_i k' b' z' kl l kc c he
   cases he
   split at hq
   ·rename_i hl
    simp only [Option.some.injEq, Prod.mk.injEq] at hq
    obtain ⟨rfl, rfl⟩ := hq
    obtain ⟨rfl, _⟩ := hl
    simp only [sop, Opd.ev] at h'
    exact h'.2
   ·cases hq
  ·cases hq
 | _ => simp [mkOf] at hq
theorem Rep.mkT {q : Option (Nat × Nat)} {β : Nat → Nat → Option (Nat × Nat)} {H : List Ob} {F : Nat → Prop} {w : World} {z : TV} {b : Nat} {vs : List Value} {t : TypeId} (hq : ∀ k n, q = some (k, n) → width z = n * k ∧ n ≤ 9223372036854775807) (hz : RepC ⟨upd β H.length 0 (some (b, 0)), H ++ [.obj 0 z], F⟩ w z vs) (hb : w.heap[b]? = some (.cells vs.toArray t (0, 0))) :
  Rep ⟨upd β H.length 0 (some (b, 0)), H ++ [.obj 0 z], F⟩ w (mkT q H.length) (mkVal q b) := by
 cases q with
 | none => exact Rep.mk_op (has_new _ _ _ _ _ (Nat.le_refl _)) upd_same rfl
 | some kn =>
  obtain ⟨k, n⟩ := kn
  obtain ⟨h1, h2⟩ := hq k n rfl
  refine Rep.of1 ?_ (by simp [Go.Proofs.YtfgljddikcghhaaDoor.mkT]) (by simp [Go.Proofs.YtfgljddikcghhaaDoor.mkT])
  unfold Go.Proofs.YtfgljddikcghhaaDoor.mkT
  rw [RepC]
  refine ⟨has_new _ _ _ _ _ (Nat.le_refl _), .inr ⟨b, 0, n, t, vs.length, upd_same, by simp [mkVal, span], Nat.le_refl _, h2, ?_, ?_, Nat.le_refl _⟩⟩
  ·simp only [World.shape?, hb, List.size_toArray]
  ·rw [hz.length, h1]; simp [span]
theorem mkOf_width {so : SOp} {z : TV} {q : Option (Nat × Nat)} (hq : mkOf so = some (z, q)) (hf : mkFit so = true) : ∀ k n, q = some (k, n) → width z = n * k ∧ n ≤ 9223372036854775807 := by
 intro k n hk
 subst hk
 unfold mkOf at hq
 split at hq
 ·simp at hq
 ·rename_i k' b' z' kl l kc c
  split at hq
  ·simp only [Option.some.injEq, Prod.mk.injEq] at hq
   obtain ⟨rfl, rfl, rfl⟩ := hq
   simp only [mkFit, decide_eq_true_eq] at hf
   exact ⟨rfl, by omega⟩
  ·cases hq
 ·cases hq
theorem mkOf_rd {so : SOp} {z : TV} {q : Option (Nat × Nat)} {d : Option Nat} (hq : mkOf so = some (z, q)) : (VO.mk d (.s so) none).rd = [] := by
 unfold mkOf at hq
 split at hq
 ·simp [VO.rd, SOp.rd]
 ·simp [VO.rd, SOp.rd, Opd.rd]
 ·cases hq
/-- A new object may be made ahead of its turn: nobody else writes its slot, who looks at that waits for it. -/
def earlyOp (m : List Nat) (l : List VO) (nA i : Nat) : Bool := match l[i]? with
 | some ⟨some d, .s so, none⟩ => (mkOf so).isSome && mkFit so && decide (nA ≤ i) &&
   (List.range l.length).all fun j => j == i || (match l[j]? with | some u => u.dst != some d && (!u.rd.contains d || (m.getD j 0).testBit i) | none => true)
 | _ => false
theorem earlyOp_spec {m : List Nat} {l : List VO} {nA i : Nat} (h : earlyOp m l nA i = true) : ∃ d so z q, l[i]? = some ⟨some d, .s so, none⟩ ∧ mkOf so = some (z, q) ∧ mkFit so = true ∧ nA ≤ i ∧ ∀ (j : Nat) u, l[j]? = some u → j ≠ i → u.dst ≠ some d ∧ (d ∈ u.rd → (m.getD j 0).testBit i = true) := by
 unfold earlyOp at h
 split at h
 ·rename_i d so hi
  simp only [Bool.and_eq_true, decide_eq_true_eq, List.all_eq_true, List.mem_range, Bool.or_eq_true, beq_iff_eq, Option.isSome_iff_exists] at h
  obtain ⟨⟨⟨⟨⟨z, q⟩, h1⟩, h0⟩, h2⟩, h3⟩ := h
  refine ⟨d, so, z, q, hi, h1, h0, h2, fun j u hj hne => ?_⟩
  have hjl : j < l.length := (List.getElem?_eq_some_iff.1 hj).1
  have h5 := (h3 j hjl).resolve_left hne
  rw [hj] at h5
  simp only [Bool.and_eq_true, bne_iff_ne, ne_eq, Bool.or_eq_true, Bool.not_eq_true', ← Bool.not_eq_true, List.contains_iff_mem] at h5
  exact ⟨h5.1, fun hd => h5.2.resolve_left fun hn => hn hd⟩
 ·cases h

/-- What copies a slot may be done ahead of its turn: nobody else writes there, who looks at that waits for it, and who writes what is copied stands ahead of it. -/
def earlyMov (m : List Nat) (l : List VO) (nA j : Nat) : Bool := match l[j]? with
 | some ⟨some d, .p (.mov (.t t)), none⟩ => decide (nA ≤ j) && (d != t) &&
   (List.range l.length).all fun k => k == j || (match l[k]? with | some u => u.dst != some d && (!u.rd.contains d || (m.getD k 0).testBit j) && (u.dst != some t || (m.getD j 0).testBit k) | none => true)
 | _ => false
theorem earlyMov_spec {m : List Nat} {l : List VO} {nA j : Nat} (h : earlyMov m l nA j = true) : ∃ d t, nA ≤ j ∧ l[j]? = some ⟨some d, .p (.mov (.t t)), none⟩ ∧ d ≠ t ∧ (∀ (k : Nat) u, l[k]? = some u → k ≠ j → u.dst = some t → (m.getD j 0).testBit k = true) ∧ ∀ (k : Nat) u, l[k]? = some u → k ≠ j → u.dst ≠ some d ∧ (d ∈ u.rd → (m.getD k 0).testBit j = true) := by
 unfold earlyMov at h
 split at h
 ·rename_i d t hj
  simp only [Bool.and_eq_true, decide_eq_true_eq, bne_iff_ne, ne_eq, List.mem_range, List.all_eq_true, Bool.or_eq_true, beq_iff_eq] at h
  obtain ⟨⟨h1, h2⟩, h7⟩ := h
  refine ⟨d, t, h1, hj, h2, fun k u hk hne hd => ?_, fun k u hk hne => ?_⟩
  ·have hkl : k < l.length := (List.getElem?_eq_some_iff.1 hk).1
   have h8 := (h7 k hkl).resolve_left hne
   rw [hk] at h8
   simp only [Bool.and_eq_true, bne_iff_ne, ne_eq, Bool.or_eq_true] at h8
   exact h8.2.resolve_left fun hn => hn hd
  ·have hkl : k < l.length := (List.getElem?_eq_some_iff.1 hk).1
   have h8 := (h7 k hkl).resolve_left hne
   rw [hk] at h8
   simp only [Bool.and_eq_true, bne_iff_ne, ne_eq, Bool.or_eq_true, Bool.not_eq_true', ← Bool.not_eq_true, List.contains_iff_mem] at h8
   exact ⟨h8.1.1, fun hd => h8.1.2.resolve_left fun hn => hn hd⟩
 ·cases h
def early (m : List Nat) (l : List VO) (nA i : Nat) : Bool := earlyOp m l nA i || earlyMov m l nA i
theorem early_spec {m : List Nat} {l : List VO} {nA i : Nat} (h : early m l nA i = true) : ∃ d op, l[i]? = some ⟨some d, op, none⟩ ∧ nA ≤ i ∧ ∀ (j : Nat) u, l[j]? = some u → j ≠ i → u.dst ≠ some d ∧ (d ∈ u.rd → (m.getD j 0).testBit i = true) := by
 unfold early at h
 rw [Bool.or_eq_true] at h
 rcases h with h | h
 ·obtain ⟨d, so, z, q, hz, _, _, hn, h'⟩ := earlyOp_spec h
  exact ⟨d, _, hz, hn, h'⟩
 ·obtain ⟨d, t, h0, hz, _, _, h'⟩ := earlyMov_spec h
  exact ⟨d, _, hz, h0, h'⟩

/-- The checks: all that stands ahead has a smaller number; the operations from nA on wait for all that have smaller numbers; of the others none is written twice, and what one reads of another one stands ahead of it, or is written behind. -/
def chkDraw (Ss : List Nat) (ops : List Oper) (l : List VO) (nA : Nat) : Bool :=
 let m := cls ops
 let n := ops.length
 decide (nA ≤ n) &&
 ((List.range n).all fun i => (match ops[i]? with | some o => (preds o).all (· < i) | none => false)) &&
 ((List.range n).all fun j => decide (j < nA) || early m l nA j || (List.range j).all fun k => (m.getD j 0).testBit k || (freeOp Ss m l nA k && (match l[j]?, l[k]? with
  | some v, some u => (match u.dst with | some d => !v.rd.contains d | none => false)
  | _, _ => false))) &&
 ((List.range nA).all fun i => (match l[i]? with
  | some v => (List.range nA).all fun j => (match l[j]? with
   | some u => (match u.dst with
    | some d => (if v.rd.contains d then ((m.getD i 0).testBit j || (m.getD j 0).testBit i) else true) && (i == j || v.dst != some d)
    | none => true)
   | none => false)
  | none => false))

/-- It changes no object. -/
def quiet (P : Program) (o : VOp) (e : Env) (H : List Ob) (k : TV → Prop) : Prop := match o with
 | .p o => pop o e H k
 | .s (.call f args) => (∀ x ∈ args, isTup (x.ev e) = false) ∧ ∃ x, VCalls P f (args.map (·.ev e)) H (fun y H' => y = x ∧ H' = H) ∧ k x
 | _ => False
def vq (P : Program) : List VO → (Env → Prop) → Env → List Ob → Prop
 | [], K, e, H => K e
 | o :: r, K, e, H => match o.g with
  | none => quiet P o.op e H fun x => vq P r K (putE e o.dst x) H
  | some (s, b) => match get e s with
   | .val v => if isB v = some b then quiet P o.op e H fun x => vq P r K (putE e o.dst x) H else vq P r K (putE e o.dst (.val undef)) H
   | _ => False

/-- The operation yields x, by what the slots hold. -/
def Qt (P : Program) (o : VOp) (e : Env) (H : List Ob) (x : TV) : Prop := match o with
 | .p o => ∀ K : TV → Prop, K x → pop o e H K
 | .s (.call f args) => (∀ y ∈ args, isTup (y.ev e) = false) ∧ VCalls P f (args.map (·.ev e)) H fun y H' => y = x ∧ H' = H
 | _ => False
def Okq (P : Program) (o : VO) (e : Env) (H : List Ob) (x : TV) : Prop := match o.g with
 | none => Qt P o.op e H x
 | some (s, b) => match get e s with
  | .val v => if isB v = some b then Qt P o.op e H x else x = .val undef
  | _ => False

theorem Qt_congr {P : Program} {o : VOp} {e e' : Env} {H : List Ob} {x : TV} (h : ∀ s ∈ (match o with | .p o => o.rd | .s o => o.rd), get e s = get e' s) (hq : Qt P o e H x) : Qt P o e' H x := by
 cases o with
 | p o => exact fun K hK => by rw [← pop_congr h]; exact hq K hK
 | s o =>
  cases o with
  | call f args =>
   obtain ⟨h1, h2⟩ := hq
   have hm := map_ev_congr (xs := args) h
   refine ⟨fun y hy => ?_, ?_⟩
   ·rw [← ev_congr (e := e) (e' := e') fun s hs => h s (List.mem_flatMap.2 ⟨y, hy, hs⟩)]; exact h1 y hy
   ·rw [← hm]; exact h2
  | _ => exact hq
theorem Okq_congr {P : Program} {o : VO} {e e' : Env} {H : List Ob} {x : TV} (h : ∀ s ∈ o.rd, get e s = get e' s) (hq : Okq P o e H x) : Okq P o e' H x := by
 have h1 : ∀ s ∈ (match o.op with | .p o => o.rd | .s o => o.rd), get e s = get e' s := fun s hs => h s (List.mem_append_left _ hs)
 unfold Okq at hq ⊢
 cases hg : o.g with
 | none => rw [hg] at hq; exact Qt_congr h1 hq
 | some sb =>
  obtain ⟨s, b⟩ := sb
  rw [hg] at hq
  have h2 : get e s = get e' s := h s (List.mem_append_right _ (by rw [hg]; simp))
  simp only [h2] at hq ⊢
  split at hq
  ·split at hq
   ·rename_i ht; rw [if_pos ht]; exact Qt_congr h1 hq
   ·rename_i ht; rw [if_neg ht]; exact hq
  ·exact hq.elim

theorem okq_of_gpop {P : Program} {d : Option Nat} {g : Option (Nat × Bool)} {o : POp} {e : Env} {H : List Ob} {x : TV} (h : ∀ K : TV → Prop, K x → gpop g o e H K) : Okq P ⟨d, .p o, g⟩ e H x := by
 cases g with
 | none => exact h
 | some sb =>
  obtain ⟨s, b⟩ := sb
  have h1 := h (fun y => y = x) rfl
  unfold gpop at h1
  unfold Okq
  simp only at h1 ⊢
  split at h1
  ·rename_i v hv
   by_cases ht : isB v = some b
   ·simp only [hv, ht, if_true]
    intro K hK
    have h2 := h K hK
    unfold gpop at h2
    simp only [hv, ht, if_true] at h2
    exact h2
   ·rw [if_neg ht] at h1
    simp only [hv, ht, if_false]
    exact h1.symm
  ·exact h1.elim
theorem gpop_of_okq {P : Program} {d : Option Nat} {g : Option (Nat × Bool)} {o : POp} {e : Env} {H : List Ob} {x : TV} (h : Okq P ⟨d, .p o, g⟩ e H x) : ∀ K : TV → Prop, K x → gpop g o e H K := by
 intro K hK
 cases g with
 | none => exact h K hK
 | some sb =>
  obtain ⟨s, b⟩ := sb
  unfold Okq at h
  unfold gpop
  simp only at h ⊢
  split at h
  ·rename_i v hv
   by_cases ht : isB v = some b
   ·simp only [hv, ht, if_true] at h ⊢
    exact h K hK
   ·simp only [hv, ht, if_false] at h ⊢
    rw [← h]; exact hK
  ·exact h.elim

def putAll (e : Env) : List VO → List TV → Env
 | o :: r, x :: xs => putAll (putE e o.dst x) r xs
 | _, _ => e

theorem quiet_det {P : Program} {o : VOp} {e : Env} {H : List Ob} {k : TV → Prop} (h : quiet P o e H k) : ∃ x, Qt P o e H x ∧ k x := by
 cases o with
 | p o => exact pop_det h
 | s o =>
  cases o with
  | call f args => obtain ⟨h1, x, h2, h3⟩ := h; exact ⟨x, ⟨h1, h2⟩, h3⟩
  | _ => exact h.elim

/-- The results of a run in the text's order. -/
theorem vq_run {P : Program} {H : List Ob} : ∀ {l : List VO} {K : Env → Prop} {e : Env}, vq P l K e H → ∃ xs : List TV, xs.length = l.length ∧ K (putAll e l xs) ∧
  ∀ (i : Nat) o x, l[i]? = some o → xs[i]? = some x → Okq P o (putAll e (l.take i) (xs.take i)) H x
 | [], K, e, h => ⟨[], rfl, h, by simp⟩
 | o :: r, K, e, h => by
  have go : ∀ x, vq P r K (putE e o.dst x) H → Okq P o e H x → ∃ xs : List TV, xs.length = (o :: r).length ∧ K (putAll e (o :: r) xs) ∧ ∀ (i : Nat) o' x, (o :: r)[i]? = some o' → xs[i]? = some x → Okq P o' (putAll e ((o :: r).take i) (xs.take i)) H x := fun x h1 h2 => by
   obtain ⟨xs, k1, k2, k3⟩ := vq_run h1
   refine ⟨x :: xs, by simp [k1], k2, ?_⟩
   intro i o' y ho hx
   cases i with
   | zero => simp at ho hx; subst ho; subst hx; exact h2
   | succ i => exact k3 i o' y (by simpa using ho) (by simpa using hx)
  rw [vq] at h
  cases hg : o.g with
  | none =>
   rw [hg] at h
   obtain ⟨x, h1, h2⟩ := quiet_det h
   exact go x h2 (by unfold Okq; rw [hg]; exact h1)
  | some sb =>
   obtain ⟨s, b⟩ := sb
   rw [hg] at h
   simp only at h
   split at h
   ·rename_i t ht
    by_cases htb : isB t = some b
    ·rw [if_pos htb] at h
     obtain ⟨x, h1, h2⟩ := quiet_det h
     exact go x h2 (by unfold Okq; rw [hg]; simp only [ht, htb, if_true]; exact h1)
    ·rw [if_neg htb] at h
     exact go (.val undef) h (by unfold Okq; rw [hg]; simp only [ht, htb, if_false])
   ·exact h.elim

/-- What a slot holds behind. -/
theorem get_putAll_none {s : Nat} : ∀ {l : List VO} {xs : List TV} {e : Env}, (∀ (j : Nat) o, l[j]? = some o → o.dst ≠ some s) → get (putAll e l xs) s = get e s
 | [], xs, e, _ => by cases xs <;> rfl
 | o :: r, [], e, _ => rfl
 | o :: r, x :: xs, e, h => by
  rw [putAll, get_putAll_none fun j o' ho => h (j + 1) o' (by simpa using ho)]
  have := h 0 o rfl
  cases hd : o.dst with
  | none => rfl
  | some d =>
   rw [hd] at this
   show get ((d, x) :: e) s = _
   rw [get_cons, if_neg (fun e => this (by rw [e]))]
theorem get_putAll_some {s : Nat} : ∀ {l : List VO} {xs : List TV} {e : Env} {i : Nat} {o : VO} {x : TV}, l[i]? = some o → xs[i]? = some x → o.dst = some s → (∀ (j : Nat) o', l[j]? = some o' → j ≠ i → o'.dst ≠ some s) → get (putAll e l xs) s = x
 | [], xs, e, i, o, x, h, _, _, _ => by simp at h
 | o' :: r, [], e, i, o, x, _, h, _, _ => by simp at h
 | o' :: r, y :: xs, e, i, o, x, ho, hx, hd, hu => by
  rw [putAll]
  cases i with
  | zero =>
   simp at ho hx; subst ho; subst hx
   rw [get_putAll_none fun j o2 ho2 => hu (j + 1) o2 (by simpa using ho2) (by omega), hd]
   show get ((s, y) :: e) s = y
   rw [get_cons, if_pos rfl]
  | succ i => exact get_putAll_some (by simpa using ho) (by simpa using hx) hd fun j o2 ho2 hj => hu (j + 1) o2 (by simpa using ho2) (by omega)

section sound
variable {P : Program} {N : Nat} {D : List Deferred} {ro : Option Nat} {nn : Nat} {ops : List Oper} {l : List VO} {nA : Nat} {Ss : List Nat}

theorem trL_get {all : List Oper} : ∀ {os : List Oper} {l : List VO}, trL P N all os = some l → l.length = os.length ∧ ∀ (i : Nat) o, os[i]? = some o → ∃ v, l[i]? = some v ∧ trV P o.op = some v.op ∧ trG all o.guard = some v.g ∧ v.dst = o.dst ∧ o.dst.all (· < N) = true
 | [], l, h => by simp only [trL, Option.some.injEq] at h; subst h; simp
 | o :: os, l, h => by
  rw [trL] at h
  split at h
  ·rename_i v g r hv hg hr
   split at h
   ·rename_i hd
    cases h
    obtain ⟨h1, h2⟩ := trL_get hr
    refine ⟨by simp [h1], fun i o' ho => ?_⟩
    cases i with
    | zero => simp at ho; subst ho; exact ⟨_, rfl, hv, hg, rfl, hd⟩
    | succ i => simpa using h2 i o' (by simpa using ho)
   ·cases h
  ·cases h

/-- The checks, said. -/
structure Chk (Ss : List Nat) (ops : List Oper) (l : List VO) (nA : Nat) : Prop where
 le : nA ≤ ops.length
 lt : ∀ i o, ops[i]? = some o → ∀ p ∈ preds o, p < i
 wait : ∀ j, j < ops.length → nA ≤ j → early (cls ops) l nA j ≠ true → ∀ k, k < j → ((cls ops).getD j 0).testBit k = true ∨ (freeOp Ss (cls ops) l nA k = true ∧ ∀ v u d, l[j]? = some v → l[k]? = some u → u.dst = some d → ¬ d ∈ v.rd)
 read : ∀ i j v u d, i < nA → j < nA → l[i]? = some v → l[j]? = some u → u.dst = some d → d ∈ v.rd → ((cls ops).getD i 0).testBit j = true ∨ ((cls ops).getD j 0).testBit i = true
 once : ∀ i j v u d, i < nA → j < nA → l[i]? = some v → l[j]? = some u → u.dst = some d → v.dst = some d → i = j

theorem Chk.of (h : chkDraw Ss ops l nA = true) : Chk Ss ops l nA := by
 unfold chkDraw at h
 simp only [Bool.and_eq_true, decide_eq_true_eq, List.all_eq_true, List.mem_range, Bool.or_eq_true] at h
 obtain ⟨⟨⟨h1, h2⟩, h3⟩, h4⟩ := h
 refine ⟨h1, fun i o ho p hp => ?_, fun j hj hn he k hk => ?_, fun i j v u d hi hj hv hu hd hr => ?_, fun i j v u d hi hj hv hu hd hv2 => ?_⟩
 ·have hi : i < ops.length := (List.getElem?_eq_some_iff.1 ho).1
  have := h2 i hi
  rw [ho] at this
  simp only [List.all_eq_true, decide_eq_true_eq] at this
  exact this p hp
 ·rcases h3 j hj with (h | h) | h
  ·omega
  ·exact absurd h he
  ·rcases h k hk with h | ⟨h, h'⟩
   ·exact .inl h
   ·refine .inr ⟨h, fun v u d hv hu hd => ?_⟩
    rw [hv, hu] at h'
    simp only [hd] at h'
    simpa using h'
 ·have := h4 i hi
  rw [hv] at this
  simp only [List.all_eq_true, List.mem_range] at this
  have := this j hj
  rw [hu] at this
  simp only [hd, Bool.and_eq_true] at this
  have hc : v.rd.contains d = true := by simpa using hr
  rw [if_pos hc] at this
  simpa using this.1
 ·have := h4 i hi
  rw [hv] at this
  simp only [List.all_eq_true, List.mem_range] at this
  have := this j hj
  rw [hu] at this
  simp only [hd, Bool.and_eq_true, Bool.or_eq_true, beq_iff_eq, bne_iff_ne] at this
  rcases this.2 with h | h
  ·exact h
  ·exact absurd hv2 h

theorem mem_ready {ops : List Oper} {L : Array Bool} {i : Nat} (h : i ∈ Region.ready .any ops.toArray L) : ∃ o, ops[i]? = some o ∧ L.getD i true = false ∧ ∀ p ∈ preds o, L.getD p false = true := by
 unfold Region.ready at h
 simp only [List.mem_filter, List.mem_range, Bool.and_eq_true, Bool.not_eq_true'] at h
 obtain ⟨h1, h2, h3⟩ := h
 have hi : i < ops.length := by simpa using h1
 refine ⟨ops[i], by simp [hi], h2, fun p hp => ?_⟩
 simp only [List.getElem?_toArray, List.getElem?_eq_getElem hi, Option.map_some, Option.getD_some, Array.all_eq_true] at h3
 unfold preds at hp
 obtain ⟨e, he, rfl⟩ := List.mem_map.1 hp
 obtain ⟨he1, he2⟩ := List.mem_filter.1 he
 obtain ⟨k, hk, hke⟩ := List.mem_iff_getElem.1 he1
 have := h3 k (by simpa using hk)
 have hke' : ops[i].after[k]'(by simpa using hk) = e := by simpa using hke
 rw [hke', he2] at this
 simpa using this
theorem ready_of {ops : List Oper} {L : Array Bool} {i : Nat} {o : Oper} (ho : ops[i]? = some o) (h2 : L.getD i true = false) (h3 : ∀ p ∈ preds o, L.getD p false = true) : i ∈ Region.ready .any ops.toArray L := by
 have hi : i < ops.length := (List.getElem?_eq_some_iff.1 ho).1
 unfold Region.ready
 simp only [List.mem_filter, List.mem_range, Bool.and_eq_true, Bool.not_eq_true']
 refine ⟨by simpa using hi, h2, ?_⟩
 simp only [List.getElem?_toArray, ho, Option.map_some, Option.getD_some, Array.all_eq_true]
 intro k hk
 rw [Bool.or_eq_true]
 by_cases hb : Region.binds .any o.after[k] = true
 ·right
  refine h3 _ ?_
  unfold preds
  exact List.mem_map.2 ⟨o.after[k], List.mem_filter.2 ⟨by simp, hb⟩, rfl⟩
 ·left; simpa using hb

/-- What has been done. -/
structure Done (ops : List Oper) (L : Array Bool) : Prop where
 size : L.size = ops.length
 closed : Closed ops fun i => L.getD i false = true

theorem Done.set {L : Array Bool} (h : Done ops L) {i : Nat} (hr : i ∈ Region.ready .any ops.toArray L) : Done ops (L.setIfInBounds i true) := by
 obtain ⟨o, ho, h1, h2⟩ := mem_ready hr
 have hi : i < L.size := by rw [h.size]; exact (List.getElem?_eq_some_iff.1 ho).1
 have hmono : ∀ p, L.getD p false = true → (L.setIfInBounds i true).getD p false = true := by
  intro p hp
  by_cases hpi : i = p
  ·subst hpi; simp [hi]
  ·rw [Array.getD_eq_getD_getElem?, Array.getElem?_setIfInBounds_ne hpi, ← Array.getD_eq_getD_getElem?]; exact hp
 refine ⟨by simp [h.size], fun j o' ho' hj p hp => ?_⟩
 by_cases hji : i = j
 ·subst hji
  rw [ho] at ho'; cases ho'
  exact hmono p (h2 p hp)
 ·refine hmono p (h.closed j o' ho' ?_ p hp)
  have hj' : (L.setIfInBounds i true).getD j false = true := hj
  rw [Array.getD_eq_getD_getElem?, Array.getElem?_setIfInBounds_ne hji, ← Array.getD_eq_getD_getElem?] at hj'
  exact hj'

theorem wait_all (hc : Chk Ss ops l nA) {L : Array Bool} (hd : Done ops L) {i : Nat} (hr : i ∈ Region.ready .any ops.toArray L) {k : Nat} (hk : ((cls ops).getD i 0).testBit k = true) : L.getD k false = true := by
 obtain ⟨o, ho, _, h2⟩ := mem_ready hr
 have hi : i < (cls ops).length := by rw [cls_length]; exact (List.getElem?_eq_some_iff.1 ho).1
 have hm : (cls ops)[i]? = some ((cls ops).getD i 0) := by
  rw [List.getD_eq_getElem?_getD, List.getElem?_eq_getElem hi]; rfl
 exact cls_ok hm ho hd.closed h2 hk

theorem bit_lt (hc : Chk Ss ops l nA) {i k : Nat} (hi : i < ops.length) (hk : ((cls ops).getD i 0).testBit k = true) : k < i := by
 have hi' : i < (cls ops).length := by rw [cls_length]; exact hi
 have hm : (cls ops)[i]? = some ((cls ops).getD i 0) := by
  rw [List.getD_eq_getElem?_getD, List.getElem?_eq_getElem hi']; rfl
 exact cls_ok (S := fun k => k < i) hm (List.getElem?_eq_getElem hi) (fun j o ho hj p hp => Nat.lt_trans (hc.lt j o ho p hp) hj) (hc.lt i _ (List.getElem?_eq_getElem hi)) hk

/-- How many are not done. -/
def undone (ops : List Oper) (L : Array Bool) : Nat := ((List.range ops.length).filter fun i => !L.getD i false).length
theorem undone_set {L : Array Bool} (hd : Done ops L) {i : Nat} (hr : i ∈ Region.ready .any ops.toArray L) : undone ops (L.setIfInBounds i true) + 1 = undone ops L := by
 obtain ⟨o, ho, h1, h2⟩ := mem_ready hr
 have hi : i < ops.length := (List.getElem?_eq_some_iff.1 ho).1
 have hiL : i < L.size := by rw [hd.size]; exact hi
 have h1' : L.getD i false = false := by
  rw [Array.getD_eq_getD_getElem?, Array.getElem?_eq_getElem hiL] at h1 ⊢; simpa using h1
 have key : ∀ (r : List Nat), r.Nodup → i ∈ r → (r.filter fun j => !(L.setIfInBounds i true).getD j false).length + 1 = (r.filter fun j => !L.getD j false).length := by
  intro r
  induction r with
  | nil => intro _ h; simp at h
  | cons j r ih =>
   intro hn hm
   rw [List.nodup_cons] at hn
   by_cases hji : i = j
   ·subst hji
    have e1 : (L.setIfInBounds i true).getD i false = true := by simp [hiL]
    have e2 : r.filter (fun j => !(L.setIfInBounds i true).getD j false) = r.filter fun j => !L.getD j false := by
     apply List.filter_congr
     intro x hx
     have : i ≠ x := fun e => hn.1 (e ▸ hx)
     rw [Array.getD_eq_getD_getElem?, Array.getElem?_setIfInBounds_ne this, ← Array.getD_eq_getD_getElem?]
    rw [List.filter_cons, List.filter_cons, e1, e2, h1']; simp
   ·have e1 : (L.setIfInBounds i true).getD j false = L.getD j false := by
     rw [Array.getD_eq_getD_getElem?, Array.getElem?_setIfInBounds_ne hji, ← Array.getD_eq_getD_getElem?]
    have := ih hn.2 ((List.mem_cons.1 hm).resolve_left hji)
    rw [List.filter_cons, List.filter_cons, e1]
    split
    ·rw [List.length_cons, List.length_cons]; omega
    ·exact this
 exact key _ List.nodup_range (by simpa using hi)

theorem first_ready (hc : Chk Ss ops l nA) {L : Array Bool} (hd : Done ops L) (h0 : Region.ready .any ops.toArray L = []) : ∀ i, i < ops.length → L.getD i false = true := by
 intro i
 induction i using Nat.strongRecOn with
 | _ i ih =>
  intro hi
  by_cases h : L.getD i false = true
  ·exact h
  ·exfalso
   have hiL : i < L.size := by rw [hd.size]; exact hi
   have hr := ready_of (ops := ops) (L := L) (List.getElem?_eq_getElem hi) (by
    rw [Array.getD_eq_getD_getElem?, Array.getElem?_eq_getElem hiL] at h ⊢; simpa using h) fun p hp => ih p (hc.lt i _ (List.getElem?_eq_getElem hi) p hp) (Nat.lt_trans (hc.lt i _ (List.getElem?_eq_getElem hi) p hp) hi)
   rw [h0] at hr; simp at hr

/-- One operation, by what its slots hold. -/
theorem okq_step {all : List Oper} {o : Oper} {v : VO} (hv : trV P o.op = some v.op) (hg : trG all o.guard = some v.g) {β : Nat → Nat → Option (Nat × Nat)} {H : List Ob} {F : Nat → Prop} {w : World} {a : Act} {e : Env} (hs : Sim ⟨β, H, F⟩ w) (he : EnvOk ⟨β, H, F⟩ w e a) {x : TV} (h : Okq P v e H x)
  {KK : Act → World → Prop} {Q : Exit → Act → World → Prop} {i : Nat} (hi : all[i]? = some o)
  (hk : ∀ β' F' w' u, Sim ⟨β', H, F'⟩ w' → Later ⟨β, H, F⟩ w ⟨β', H, F'⟩ w' → Rep ⟨β', H, F'⟩ w' x u → KK (a.put o.dst u) w') : wpOpIn (fz ro) nn P all.toArray Q i KK a w := by
 have go : Qt P v.op e H x → o.wpIn (fz ro) nn P a w KK Q := fun hq => by
  have hvop : vop P v.op e H fun y H' => y = x ∧ H' = H := by
   obtain ⟨dst, op, g⟩ := v
   cases op with
   | p po =>
    show pop po e H fun y => y = x ∧ H = H
    exact hq _ ⟨rfl, rfl⟩
   | s so =>
    cases so with
    | call f args => exact hq
    | _ => exact hq.elim
  refine vop_sound hs he hv hvop o KK Q rfl (trV_nd hv) ?_ ro nn
  rintro y H' β' F' w' u ⟨rfl, rfl⟩ k1 k2 k3
  exact hk β' F' w' u k1 k2 k3
 unfold wpOpIn
 simp only [List.getElem?_toArray, hi]
 unfold Okq at h
 cases hog : o.guard with
 | none =>
  rw [hog] at hg
  simp only [trG, Option.some.injEq] at hg
  rw [← hg] at h
  have : Region.wanted o (yielded all.toArray a.tmps) = true := by simp [Region.wanted, hog]
  rw [if_pos this]
  exact (go h)
 | some jb =>
  obtain ⟨j, b⟩ := jb
  rw [hog] at hg
  simp only [trG] at hg
  split at hg
  ·rename_i s hj
   simp only [Option.some.injEq] at hg
   rw [← hg] at h
   simp only at h
   split at h
   ·rename_i t hgs
    have hy : yielded all.toArray a.tmps j = isB t := by
     have h9 := he.1 s
     rw [hgs, Rep.val] at h9
     rw [yielded_is (ops := all.toArray) (a := a) (by simpa using hj), h9]
    by_cases htb : isB t = some b
    ·have : Region.wanted o (yielded all.toArray a.tmps) = true := by simp [Region.wanted, hog, hy, htb]
     rw [if_pos this]
     rw [if_pos htb] at h
     exact (go h)
    ·have : ¬ (Region.wanted o (yielded all.toArray a.tmps) = true) := by simp [Region.wanted, hog, hy, htb]
     rw [if_neg this]
     rw [if_neg htb] at h
     subst h
     exact ⟨fun _ _ => trivial, hk β F w undef hs (Later.refl _ _) Rep.of_val⟩
   ·exact h.elim
  ·cases hg

theorem put_other {a : Act} {dst : Option Nat} {u : Value} {s : Nat} (h : dst ≠ some s) : (a.put dst u).tmps.getD s undef = a.tmps.getD s undef := by
 cases dst with
 | none => rfl
 | some d =>
  have : d ≠ s := fun e => h (by rw [e])
  show (a.tmps.setIfInBounds d u).getD s undef = _
  simp [Array.getElem?_setIfInBounds_ne this]
theorem put_same {a : Act} {d : Nat} {u : Value} (h : d < a.tmps.size) : (a.put (some d) u).tmps.getD d undef = u := by
 show (a.tmps.setIfInBounds d u).getD d undef = u
 simp [h]
theorem put_size {a : Act} {dst : Option Nat} {u : Value} : (a.put dst u).tmps.size = a.tmps.size := by cases dst <;> simp [Act.put]
theorem put_defers {a : Act} {dst : Option Nat} {u : Value} : (a.put dst u).defers = a.defers := by cases dst <;> rfl
theorem get_putE_other {e : Env} {dst : Option Nat} {x : TV} {s : Nat} (h : dst ≠ some s) : get (putE e dst x) s = get e s := by
 cases dst with
 | none => rfl
 | some d =>
  show get ((d, x) :: e) s = _
  rw [get_cons, if_neg (fun e => h (by rw [e]))]
theorem get_putE_same {e : Env} {d : Nat} {x : TV} : get (putE e (some d) x) d = x := by
 show get ((d, x) :: e) d = x
 rw [get_cons, if_pos rfl]



theorem Sim.extra {c : Ctx} {w : World} (hs : Sim c w) (o : Obj) : Sim c (w.alloc o) ∧ Later c w c (w.alloc o) := by
 have hm : Mono c w c (w.alloc o) := ⟨fun b hb => ⟨hb, alloc_old w o (hs.lt b hb)⟩, fun _ _ h => ⟨h, rfl⟩, fun b hb => shape_of_block (alloc_old w o hb)⟩
 refine ⟨⟨fun id ob ho => ObIs.mono hm (Ctx.has_of ho) (fun hl b off hb => alloc_old w o (hs.own_lt (Ctx.own_of ho hl hb))) (hs.ob id ob ho), hs.inj, hs.apart, fun b hb => ?_, hs.glob.keep hm.stay⟩, ⟨rfl, rfl, rfl, by simp, hm.has, hm.shape, fun b hb _ => alloc_old w o hb, fun _ h => h, fun _ _ h => .inl h, fun _ _ h => h⟩⟩
 have h1 := hs.lt b hb
 have h2 : w.heap.size ≤ (w.alloc o).heap.size := by simp
 omega
def AlwaysRep (z : TV) (vs : List Value) : Prop := ∀ (c : Ctx) (w : World), RepC c w z vs
theorem Sim.adopt {β : Nat → Nat → Option (Nat × Nat)} {H : List Ob} {F : Nat → Prop} {w : World} (hs : Sim ⟨β, H, F⟩ w) {z : TV} {vs : List Value} {b : Nat} {t : TypeId} (hz : AlwaysRep z vs) (hb : w.heap[b]? = some (.cells vs.toArray t (0, 0))) (h1 : ¬ Ctx.own ⟨β, H, F⟩ b) (h2 : ¬ F b) :
  Sim ⟨upd β H.length 0 (some (b, 0)), H ++ [.obj 0 z], F⟩ w ∧ Mono ⟨β, H, F⟩ w ⟨upd β H.length 0 (some (b, 0)), H ++ [.obj 0 z], F⟩ w ∧ ∀ b', Ctx.own ⟨upd β H.length 0 (some (b, 0)), H ++ [.obj 0 z], F⟩ b' → Ctx.own ⟨β, H, F⟩ b' ∨ b' = b := by
 have hm := mono_new hs (.obj 0 z) (some (b, 0)) w (fun _ _ => rfl)
 have hget : ∀ id y, (H ++ [Ob.obj 0 z])[id]? = some y → (id < H.length ∧ H[id]? = some y) ∨ (id = H.length ∧ y = .obj 0 z) := by
  intro id y h
  rcases Nat.lt_trichotomy id H.length with h1 | h1 | h1
  ·exact .inl ⟨h1, by rwa [List.getElem?_append_left h1] at h⟩
  ·subst h1; simp at h; exact .inr ⟨rfl, h.symm⟩
  ·rw [List.getElem?_eq_none (by simp; omega)] at h; cases h
 have hβ : ∀ id y, H[id]? = some y → upd β H.length 0 (some (b, 0)) id y.ver = β id y.ver := fun id y h => (hm.has id y.ver ⟨y, h, Nat.le_refl _⟩).2
 have hown : ∀ b', Ctx.own ⟨upd β H.length 0 (some (b, 0)), H ++ [.obj 0 z], F⟩ b' → Ctx.own ⟨β, H, F⟩ b' ∨ b' = b := by
  rintro b' ⟨id, y, off, h1, h2, h3⟩
  rcases hget id y h1 with ⟨h4, h5⟩ | ⟨rfl, rfl⟩
  ·exact .inl ⟨id, y, off, h5, h2, by show β id y.ver = _; rw [← hβ id y h5]; exact h3⟩
  ·right
   have h3' : upd β H.length 0 (some (b, 0)) H.length 0 = some (b', off) := h3
   rw [upd_same] at h3'; cases h3'; rfl
 refine ⟨⟨fun id y hy => ?_, fun i j x y b' o1 o2 hx hy hlx hly e1 e2 => ?_, fun b' hb' hF => ?_, hs.lt, hs.glob⟩, hm, hown⟩
 ·rcases hget id y hy with ⟨h4, h5⟩ | ⟨rfl, rfl⟩
  ·exact ObIs.mono hm ⟨y, h5, Nat.le_refl _⟩ (fun _ _ _ _ => rfl) (hs.ob id y h5)
  ·exact .inr ⟨b, 0, [], vs, [], t, (0, 0), upd_same, by simpa using hb, bare0 _, rfl, hz _ _⟩
 ·have e1' : upd β H.length 0 (some (b, 0)) i x.ver = some (b', o1) := e1
  have e2' : upd β H.length 0 (some (b, 0)) j y.ver = some (b', o2) := e2
  rcases hget i x hx with ⟨h4, h5⟩ | ⟨rfl, rfl⟩ <;> rcases hget j y hy with ⟨k4, k5⟩ | ⟨rfl, rfl⟩
  ·rw [hβ i x h5] at e1'; rw [hβ j y k5] at e2'
   exact hs.inj i j x y b' o1 o2 h5 k5 hlx hly e1' e2'
  ·exfalso
   have e3 : upd β H.length 0 (some (b, 0)) H.length 0 = some (b', o2) := e2'
   rw [upd_same] at e3; cases e3
   rw [hβ i x h5] at e1'
   exact h1 ⟨i, x, o1, h5, hlx, e1'⟩
  ·exfalso
   have e3 : upd β H.length 0 (some (b, 0)) H.length 0 = some (b', o1) := e1'
   rw [upd_same] at e3; cases e3
   rw [hβ j y k5] at e2'
   exact h1 ⟨j, y, o2, k5, hly, e2'⟩
  ·rfl
 ·rcases hown b' hb' with h | h
  ·exact hs.apart b' h hF
  ·subst h; exact h2 hF
theorem Later.adopt {c0 : Ctx} {w0 w : World} {β : Nat → Nat → Option (Nat × Nat)} {H : List Ob} {F : Nat → Prop} (hl : Later c0 w0 ⟨β, H, F⟩ w) {c' : Ctx} {b : Nat} (hb : w0.heap.size ≤ b) (hF : c'.F = F) (hm : Mono ⟨β, H, F⟩ w c' w) (ho : ∀ b', c'.own b' → Ctx.own ⟨β, H, F⟩ b' ∨ b' = b) : Later c0 w0 c' w where
 os := hl.os
 tape := hl.tape
 output := hl.output
 size := hl.size
 has id ver hh := ⟨(hm.has id ver (hl.has id ver hh).1).1, (hm.has id ver (hl.has id ver hh).1).2.trans (hl.has id ver hh).2⟩
 shape := hl.shape
 same := hl.same
 keepF b' hb' := by rw [hF]; exact hl.keepF b' hb'
 oldF b' hlt h := hl.oldF b' hlt (by rw [hF] at h; exact h)
 oldOwn b' hlt h := hl.oldOwn b' hlt ((ho b' h).resolve_right fun e => by omega)

/-- What was made ahead of its turn. -/
def Earl (ops : List Oper) (l : List VO) (nA m : Nat) (L : Array Bool) (w0 : World) (c : Ctx) (w : World) (a : Act) : Prop :=
 ∃ bl : Nat → Nat, (∀ i d so z q, m ≤ i → earlyOp (cls ops) l nA i = true → L.getD i false = true → l[i]? = some ⟨some d, .s so, none⟩ → mkOf so = some (z, q) →
   a.tmps.getD d undef = mkVal q (bl i) ∧ (∃ vs t, w.heap[bl i]? = some (.cells vs.toArray t (0, 0)) ∧ AlwaysRep z vs) ∧ w0.heap.size ≤ bl i ∧ ¬ c.own (bl i) ∧ ¬ c.F (bl i)) ∧
  ∀ i j, m ≤ i → m ≤ j → earlyOp (cls ops) l nA i = true → earlyOp (cls ops) l nA j = true → L.getD i false = true → L.getD j false = true → bl i = bl j → i = j
theorem Earl.empty {ops : List Oper} {l : List VO} {nA m : Nat} {L : Array Bool} {w0 : World} {c : Ctx} {w : World} {a : Act} (h : ∀ i, m ≤ i → earlyOp (cls ops) l nA i = true → L.getD i false ≠ true) : Earl ops l nA m L w0 c w a :=
 ⟨fun _ => 0, fun i d so z q h1 h2 h3 => absurd h3 (h i h1 h2), fun i j h1 _ h2 _ h3 => absurd h3 (h i h1 h2)⟩
/-- Another operation is done. -/
theorem Earl.step {ops : List Oper} {l : List VO} {nA m m' i0 : Nat} {L : Array Bool} {w0 w w' : World} {c c' : Ctx} {a : Act} {dst : Option Nat} {u : Value} (h : Earl ops l nA m L w0 c w a) (hl : Later c w c' w') (hmm : m ≤ m')
  (hne : ∀ i d so, m' ≤ i → earlyOp (cls ops) l nA i = true → l[i]? = some ⟨some d, .s so, none⟩ → (L.setIfInBounds i0 true).getD i false = true → dst ≠ some d) (hi0 : m' ≤ i0 → earlyOp (cls ops) l nA i0 ≠ true) :
  Earl ops l nA m' (L.setIfInBounds i0 true) w0 c' w' (a.put dst u) := by
 obtain ⟨bl, h1, h2⟩ := h
 have hL : ∀ i, m' ≤ i → earlyOp (cls ops) l nA i = true → (L.setIfInBounds i0 true).getD i false = true → L.getD i false = true := by
  intro i hi he hh
  by_cases e : i0 = i
  ·subst e; exact absurd he (hi0 hi)
  ·rw [Array.getD_eq_getD_getElem?, Array.getElem?_setIfInBounds_ne e, ← Array.getD_eq_getD_getElem?] at hh; exact hh
 refine ⟨bl, fun i d so z q hi he hLi hz hq => ?_, fun i j hi hj he1 he2 hLi hLj e => h2 i j (by omega) (by omega) he1 he2 (hL i hi he1 hLi) (hL j hj he2 hLj) e⟩
 obtain ⟨k1, ⟨vs, t, k2, k3⟩, k4, k5, k6⟩ := h1 i d so z q (by omega) he (hL i hi he hLi) hz hq
 have hlt : bl i < w.heap.size := (Array.getElem?_eq_some_iff.1 k2).1
 refine ⟨by rw [put_other (hne i d so hi he hz hLi)]; exact k1, ⟨vs, t, by rw [hl.same _ hlt k5]; exact k2, k3⟩, k4, fun ho => k5 (hl.oldOwn _ hlt ho), fun hF => (hl.oldF _ hlt hF).elim k6 k5⟩
/-- One more is made ahead of its turn. -/
theorem Earl.more {ops : List Oper} {l : List VO} {nA m i0 : Nat} {L : Array Bool} {w0 w : World} {c : Ctx} {a : Act} {d0 : Nat} {so0 : SOp} {z0 : TV} {q0 : Option (Nat × Nat)} {vs : List Value} {t : TypeId} (hsm : Sim c w) (h : Earl ops l nA m L w0 c w a) (hsz : w0.heap.size ≤ w.heap.size) (hz0 : l[i0]? = some ⟨some d0, .s so0, none⟩) (hq0 : mkOf so0 = some (z0, q0)) (he0 : earlyOp (cls ops) l nA i0 = true) (hr : AlwaysRep z0 vs) (hd0 : d0 < a.tmps.size) :
  Earl ops l nA m (L.setIfInBounds i0 true) w0 c (w.alloc (.cells vs.toArray t (0, 0))) (a.put (some d0) (mkVal q0 w.heap.size)) := by
 obtain ⟨bl, h1, h2⟩ := h
 have hL : ∀ i, i ≠ i0 → (L.setIfInBounds i0 true).getD i false = true → L.getD i false = true := by
  intro i e hh
  rw [Array.getD_eq_getD_getElem?, Array.getElem?_setIfInBounds_ne (Ne.symm e), ← Array.getD_eq_getD_getElem?] at hh; exact hh
 have hlt : ∀ i, m ≤ i → earlyOp (cls ops) l nA i = true → L.getD i false = true → bl i < w.heap.size := by
  intro i hi he hLi
  obtain ⟨d, so, z, q, hz, hq, _⟩ := earlyOp_spec he
  obtain ⟨_, ⟨vs, t, k2, _⟩, _⟩ := h1 i d so z q hi he hLi hz hq
  exact (Array.getElem?_eq_some_iff.1 k2).1
 refine ⟨fun k => if k = i0 then w.heap.size else bl k, fun i d so z q hi he hLi hz hq => ?_, fun i j hi hj he1 he2 hLi hLj e => ?_⟩
 ·by_cases e : i = i0
  ·subst e
   rw [hz0] at hz; cases hz
   rw [hq0] at hq; cases hq
   simp only [if_true]
   exact ⟨put_same hd0, ⟨vs, t, getElem?_alloc_new w _, hr⟩, hsz, fun ho => Nat.lt_irrefl _ (hsm.own_lt ho), fun hF => Nat.lt_irrefl _ (hsm.lt _ hF)⟩
  ·simp only [if_neg e]
   obtain ⟨k1, ⟨vs', t', k2, k3⟩, k4, k5, k6⟩ := h1 i d so z q hi he (hL i e hLi) hz hq
   obtain ⟨d', so', z', q', hz', _, _, _, hn⟩ := earlyOp_spec he
   rw [hz] at hz'; cases hz'
   refine ⟨?_, ⟨vs', t', by rw [alloc_old w _ (hlt i hi he (hL i e hLi))]; exact k2, k3⟩, k4, k5, k6⟩
   rw [put_other (fun h9 => (hn i0 _ hz0 (Ne.symm e)).1 h9)]; exact k1
 ·by_cases e1 : i = i0 <;> by_cases e2 : j = i0
  ·rw [e1, e2]
  ·simp only [if_pos e1, if_neg e2] at e
   have := hlt j hj he2 (hL j e2 hLj); omega
  ·simp only [if_neg e1, if_pos e2] at e
   have := hlt i hi he1 (hL i e1 hLi); omega
  ·simp only [if_neg e1, if_neg e2] at e
   exact h2 i j hi hj he1 he2 (hL i e1 hLi) (hL j e2 hLj) e

theorem trS_alloc {op : Op} {z : TV} (h : trS P op = some (.alloc z)) : ∃ t, op = .alloc t := by
 cases op
 case alloc t => exact ⟨t, rfl⟩
 case next x b => cases b <;> simp [trS] at h
 all_goals (simp only [trS] at h; (repeat' split at h) <;> first | (simp at h; done) | skip)
theorem trS_mks {op : Op} {k b : Nat} {z : TV} {x y : Opd} (h : trS P op = some (.mks k b z x y)) : ∃ t l c, op = .makeSlice t l c ∧ x = trO l ∧ y = trO c := by
 cases op
 case makeSlice t l c =>
  refine ⟨t, l, c, rfl, ?_⟩
  simp only [trS] at h
  (repeat' split at h) <;> first | (cases h; done) | skip
  obtain ⟨x, h4, e⟩ := Option.map_eq_some_iff.1 h
  simp only [SOp.mks.injEq] at e
  exact ⟨e.2.2.2.1.symm, e.2.2.2.2.symm⟩
 case next x b => cases b <;> simp [trS] at h
 all_goals (simp only [trS] at h; (repeat' split at h) <;> first | (simp at h; done) | skip)
theorem trO_const {x : Operand} {k : IntKind} {n : Int} (h : trO x = .c (.int k n)) (a : Act) : a.eval x = .int k n := by
 cases x with
 | const v => simp only [trO, Opd.c.injEq] at h; rw [h]; rfl
 | _ => simp [trO] at h
theorem madeAlways {z : Array Value} {x : TV} (hz : ∀ (c : Ctx) (w : World), RepC c w x z.toList) (h0 : z.size ≠ 0) (n : Nat) : AlwaysRep (.arr n z.size (List.replicate n x)) (madeCells z (n * z.size)).toList := by
 intro c w
 rw [RepC]
 refine ⟨by simp, fun y hy => ?_, made_rep (hz c.bare w) h0 n⟩
 rw [List.eq_of_mem_replicate hy, ← (hz c w).length]; simp
/-- A new block, made at once. -/
theorem mk_raw {o : Oper} {so : SOp} {z : TV} {q : Option (Nat × Nat)} (ht : trV P o.op = some (.s so)) (hq : mkOf so = some (z, q)) (hf : mkFit so = true) {a : Act} {w : World} {KK : Act → World → Prop} {Q : Exit → Act → World → Prop}
  (hk : ∀ vs t', AlwaysRep z vs → KK (a.put o.dst (mkVal q w.heap.size)) (w.alloc (.cells vs.toArray t' (0, 0)))) : OW P o a w KK Q := by
 have hts := trV_s ht
 cases so with
 | alloc z0 =>
  simp only [mkOf, Option.some.injEq, Prod.mk.injEq] at hq
  obtain ⟨rfl, rfl⟩ := hq
  obtain ⟨t, ho⟩ := trS_alloc hts
  refine OW.of_wp (by rw [ho]; intro c h; cases h) ?_
  rw [ho] at hts
  simp only [trS] at hts
  split at hts
  ·rename_i i h1
   split at hts
   ·rename_i z1 h2
    obtain ⟨x, h3, e⟩ := Option.map_eq_some_iff.1 hts
    split at e
    ·cases e
    cases e
    have hr : AlwaysRep z0 z1.cells.toList := fun c w => (zT_spec h3).1
    have := hk z1.cells.toList t hr
    rw [Array.toArray_toList] at this
    have hrun : (execOp a.eval o).run P w = .ok (.value (.pointer (some ⟨w.heap.size, 0, none⟩))) (w.alloc (.cells z1.cells t (0, 0))) := by
     simp [execOp, ho, Instr.alloc, zeroValue, typeInfo, h1, h2, newVar, newRow, newObj, Sem.run]
    unfold Oper.wp
    rw [hrun]
    exact this
   ·cases hts
  ·cases hts
 | mks k bytes z0 x y =>
  unfold mkOf at hq
  split at hq
  ·rename_i so' _ he; cases he
  ·rename_i k' b' z' kl l kc c he
   cases he
   split at hq
   ·rename_i hl
    simp only [Option.some.injEq, Prod.mk.injEq] at hq
    obtain ⟨rfl, rfl⟩ := hq
    obtain ⟨rfl, hwz⟩ := hl
    obtain ⟨t, lo, co, ho, e1, e2⟩ := trS_mks hts
    refine OW.of_wp (by rw [ho]; intro c h; cases h) ?_
    rw [ho] at hts
    simp only [trS] at hts
    split at hts
    ·rename_i k2 et h0
     split at hts
     ·rename_i i h1
      split at hts
      ·rename_i z1 h2
       split at hts
       ·rename_i h3
        obtain ⟨x, h4, e⟩ := Option.map_eq_some_iff.1 hts
        simp only [SOp.mks.injEq] at e
        obtain ⟨e5, e6, e7, _, _⟩ := e
        subst e5; subst e6; subst e7
        obtain ⟨g1, g2⟩ := sliceOf_spec h0
        have hik : i.size = k2 := by unfold szOf at g2; rw [h1] at g2; simpa using g2
        simp only [mkFit, decide_eq_true_eq] at hf
        obtain ⟨b1, b3, b4⟩ := hf
        have hr := run_make (P := P) w t et i z1 g1 h1 h2 kl kc l l b1 (Int.le_refl _) b3 b4
        have hA := madeAlways (x := x) (fun c w => (zT_spec h4).1) (by rw [h3.1]; exact h3.2) l.toNat
        rw [h3.1] at hA
        have := hk _ et hA
        unfold Oper.wp
        simp only [execOp, ho, trO_const e1.symm a, trO_const e2.symm a, Sem.run_bind, hr]
        rw [Array.toArray_toList] at this
        simp [mkVal, hik, h3.1] at this ⊢
        exact this
       ·cases hts
      ·cases hts
     ·cases hts
    ·cases hts
   ·cases hq
  ·cases hq
 | _ => simp [mkOf] at hq

/-- What the slots hold in the second part: what looks at slots alone may still be to be done; some new objects may have been made. -/
structure InB (Ss : List Nat) (ops : List Oper) (l : List VO) (nA N : Nat) (D : List Deferred) (m : Nat) (e : Env) (L : Array Bool) (w0 : World) (c : Ctx) (w : World) (a : Act) : Prop where
 rep : ∀ s, (∀ i v, freeOp Ss (cls ops) l nA i = true → L.getD i false ≠ true → l[i]? = some v → v.dst ≠ some s) → (∀ i v, m ≤ i → early (cls ops) l nA i = true → L.getD i false = true → l[i]? = some v → v.dst ≠ some s) → Rep c w (get e s) (a.tmps.getD s undef)
 pend : ∀ i d o g, freeOp Ss (cls ops) l nA i = true → L.getD i false ≠ true → l[i]? = some ⟨some d, .p o, g⟩ → ∃ es : Env, (∀ s ∈ (VO.mk (some d) (.p o) g).rd, get es s = get e s ∨ get es s = .any) ∧ ∀ K : TV → Prop, K (get e d) → gpop g o es c.H K
 earl : Earl ops l nA m L w0 c w a
 emov : ∀ j d t, m ≤ j → earlyMov (cls ops) l nA j = true → L.getD j false = true → l[j]? = some ⟨some d, .p (.mov (.t t)), none⟩ → a.tmps.getD d undef = a.tmps.getD t undef
 glob : GlobOk c.F w
 size : a.tmps.size = N
 defers : a.defers = D

theorem done_of_bit {L : Array Bool} (hd : Done ops L) {j i : Nat} (hj : j < ops.length) (hLj : L.getD j false = true) (hb : ((cls ops).getD j 0).testBit i = true) : L.getD i false = true := by
 have hjl : j < (cls ops).length := by rw [cls_length]; exact hj
 have hmj : (cls ops)[j]? = some ((cls ops).getD j 0) := by
  rw [List.getD_eq_getElem?_getD, List.getElem?_eq_getElem hjl]; rfl
 have hoj : ops[j]? = some ops[j] := List.getElem?_eq_getElem hj
 exact cls_ok hmj hoj hd.closed (hd.closed j _ hoj hLj) hb

theorem emov_keep1 {L : Array Bool} (hll : l.length = ops.length) (hd : Done ops L) {m i0 : Nat} {v : VO} {dst : Option Nat} {u : Value} {a : Act} (hv : l[i0]? = some v) (hvd : v.dst = dst) (h3 : ¬ L.getD i0 false = true)
  (h : ∀ j d t, m ≤ j → earlyMov (cls ops) l nA j = true → L.getD j false = true → l[j]? = some ⟨some d, .p (.mov (.t t)), none⟩ → a.tmps.getD d undef = a.tmps.getD t undef)
  {j d t : Nat} (hj : m ≤ j) (he : earlyMov (cls ops) l nA j = true) (hne : j ≠ i0) (hLj : (L.setIfInBounds i0 true).getD j false = true) (hz : l[j]? = some ⟨some d, .p (.mov (.t t)), none⟩) : (a.put dst u).tmps.getD d undef = (a.put dst u).tmps.getD t undef := by
 have hLj' : L.getD j false = true := by
  rw [Array.getD_eq_getD_getElem?, Array.getElem?_setIfInBounds_ne (Ne.symm hne), ← Array.getD_eq_getD_getElem?] at hLj; exact hLj
 obtain ⟨d', t', _, hz', _, hwr, hn⟩ := earlyMov_spec he
 rw [hz] at hz'; cases hz'
 have hjl : j < ops.length := by rw [← hll]; exact (List.getElem?_eq_some_iff.1 hz).1
 have h1 : dst ≠ some d := by rw [← hvd]; exact (hn i0 v hv (Ne.symm hne)).1
 have h2 : dst ≠ some t := fun e => h3 (done_of_bit hd hjl hLj' (hwr i0 v hv (Ne.symm hne) (by rw [hvd]; exact e)))
 rw [put_other h1, put_other h2]
 exact h j d t hj he hLj' hz
theorem emov_keep {L : Array Bool} (hll : l.length = ops.length) (hd : Done ops L) {m m' i0 : Nat} {v : VO} {dst : Option Nat} {u : Value} {a : Act} (hv : l[i0]? = some v) (hvd : v.dst = dst) (h3 : ¬ L.getD i0 false = true) (hm : m ≤ m') (hji : ∀ j, m' ≤ j → earlyMov (cls ops) l nA j = true → j ≠ i0)
  (h : ∀ j d t, m ≤ j → earlyMov (cls ops) l nA j = true → L.getD j false = true → l[j]? = some ⟨some d, .p (.mov (.t t)), none⟩ → a.tmps.getD d undef = a.tmps.getD t undef) :
  ∀ j d t, m' ≤ j → earlyMov (cls ops) l nA j = true → (L.setIfInBounds i0 true).getD j false = true → l[j]? = some ⟨some d, .p (.mov (.t t)), none⟩ → (a.put dst u).tmps.getD d undef = (a.put dst u).tmps.getD t undef :=
 fun j d t hj he hLj hz => emov_keep1 hll hd hv hvd h3 h (by omega) he (hji j hj he) hLj hz
/-- A reading of operations that may be done in an order that is open. -/
structure WOk (P : Program) (W : VOp → Env → List Ob → (TV → List Ob → Prop) → Prop) (KP : Value → List Ob → Prop) (Ss : List Nat) : Prop where
 sound : WSound P W KP
 weak : ∀ {v : VO} {e : Env} {H : List Ob} {K : TV → List Ob → Prop}, W v.op e H K → W v.op (forget v.rd e) H K
 rel : ∀ {u : VOp} {e : Env} {H : List Ob} {K : TV → List Ob → Prop}, W u e H K → W u e H (fun x H' => K x H' ∧ HRel Ss u e H H')
 mov : ∀ {t : Nat} {e : Env} {H : List Ob} {K : TV → List Ob → Prop}, W (.p (.mov (.t t))) e H K → K (get e t) H
 made : ∀ {so : SOp} {z : TV} {q : Option (Nat × Nat)} {e : Env} {H : List Ob} {K : TV → List Ob → Prop}, mkOf so = some (z, q) → W (.s so) e H K → K (mkT q H.length) (H ++ [.obj 0 z])
theorem vop_weak {P : Program} {v : VO} {e : Env} {H : List Ob} {K : TV → List Ob → Prop} (h : vop P v.op e H K) : vop P v.op (forget v.rd e) H K := by
 rw [← vop_congr (e := e) fun s hs => by rw [get_forget, if_pos hs]]; exact h
theorem WOk.vop {P : Program} {KP : Value → List Ob → Prop} : WOk P (vop P) KP [] := ⟨WSound.vop, vop_weak, fun h => vop_rel h, fun h => h, fun hq h => vop_mk hq h⟩
theorem pvop_else {P : Program} {KP : Value → List Ob → Prop} {o : VOp} {e : Env} {H : List Ob} {K : TV → List Ob → Prop} (h1 : ¬ ∃ f xs, o = .s (.call f xs)) (h2 : ¬ ∃ x, o = .s (.pan x)) : Go.Proofs.YtfgljddikcghhaaDoor.pvop P KP o e H K = vop P o e H K := by
 cases o with
 | p o => rfl
 | s so =>
  cases so with
  | call f xs => exact absurd ⟨f, xs, rfl⟩ h1
  | pan x => exact absurd ⟨x, rfl⟩ h2
  | _ => rfl
theorem pvop_weak {P : Program} {KP : Value → List Ob → Prop} {v : VO} {e : Env} {H : List Ob} {K : TV → List Ob → Prop} (h : pvop P KP v.op e H K) : pvop P KP v.op (forget v.rd e) H K := by
 have h1 : ∀ s ∈ (match v.op with | .p o => o.rd | .s o => o.rd), get e s = get (forget v.rd e) s := fun s hs => by rw [get_forget, if_pos (show s ∈ v.rd from List.mem_append_left _ hs)]
 by_cases hc : ∃ f xs, v.op = .s (.call f xs)
 ·obtain ⟨f, xs, hv⟩ := hc
  rw [hv] at h h1 ⊢
  refine ⟨fun x hx => ?_, ?_⟩
  ·rw [← ev_congr (e := e) (e' := forget v.rd e) fun s hs => h1 s (List.mem_flatMap.2 ⟨x, hx, hs⟩)]
   exact h.1 x hx
  ·rw [← map_ev_congr (xs := xs) (e := e) (e' := forget v.rd e) h1]
   exact h.2
 ·by_cases hp : ∃ x, v.op = .s (.pan x)
  ·obtain ⟨x, hv⟩ := hp
   rw [hv] at h h1 ⊢
   have e1 : x.ev e = x.ev (forget v.rd e) := ev_congr h1
   unfold Go.Proofs.YtfgljddikcghhaaDoor.pvop at h ⊢
   simp only [← e1]
   exact h
  ·rw [pvop_else hc hp] at h ⊢
   exact vop_weak h
theorem pvop_rel {P : Program} {KP : Value → List Ob → Prop} {u : VOp} {e : Env} {H : List Ob} {K : TV → List Ob → Prop} (h : pvop P KP u e H K) : pvop P KP u e H (fun x H' => K x H' ∧ HRel [] u e H H') := by
 by_cases hc : ∃ f xs, u = .s (.call f xs)
 ·obtain ⟨f, xs, rfl⟩ := hc
  exact ⟨h.1, h.2.mono (fun x H' hx => ⟨hx, Kept.nil⟩) fun _ _ h => h⟩
 ·by_cases hp : ∃ x, u = .s (.pan x)
  ·obtain ⟨x, rfl⟩ := hp
   exact h
  ·rw [pvop_else hc hp] at h ⊢
   exact vop_rel h
theorem pvop_mk {P : Program} {KP : Value → List Ob → Prop} {so : SOp} {z : TV} {q : Option (Nat × Nat)} {e : Env} {H : List Ob} {K : TV → List Ob → Prop} (hq : mkOf so = some (z, q)) (h : pvop P KP (.s so) e H K) : K (mkT q H.length) (H ++ [.obj 0 z]) := by
 cases so with
 | call f xs => simp [mkOf] at hq
 | pan x => simp [mkOf] at hq
 | _ => exact vop_mk (P := P) (e := e) hq h
theorem WOk.pvop {P : Program} {KP : Value → List Ob → Prop} : WOk P (pvop P KP) KP [] := ⟨WSound.pvop, pvop_weak, fun h => pvop_rel h, fun h => h, fun hq h => pvop_mk hq h⟩
/-- The same, where something may be looked at while a call goes on: the call leaves it as it is. -/
def pvopS (P : Program) (KP : Value → List Ob → Prop) (Ss : List Nat) (o : VOp) (e : Env) (H : List Ob) (K : TV → List Ob → Prop) : Prop := match o with
 | .s (.call f xs) => Go.Proofs.YtfgljddikcghhaaDoor.pvop P KP (.s (.call f xs)) e H fun x H' => K x H' ∧ Kept Ss e H H'
 | .s (.store sz x v) => Go.Proofs.YtfgljddikcghhaaDoor.pvop P KP (.s (.store sz x v)) e H fun x H' => K x H' ∧ Kept Ss e H H'
 | o => Go.Proofs.YtfgljddikcghhaaDoor.pvop P KP o e H K
theorem store_mono {P : Program} {KP : Value → List Ob → Prop} {sz : Nat} {x v : Opd} {e : Env} {H : List Ob} {K K' : TV → List Ob → Prop} (h : Go.Proofs.YtfgljddikcghhaaDoor.pvop P KP (.s (.store sz x v)) e H K) (hk : ∀ x H', K x H' → K' x H') : Go.Proofs.YtfgljddikcghhaaDoor.pvop P KP (.s (.store sz x v)) e H K' := by
 have h' : sop P (.store sz x v) e H K := h
 show sop P (.store sz x v) e H K'
 simp only [sop] at h' ⊢
 refine ⟨h'.1, ?_⟩
 have h2 := h'.2
 split at h2
 ·split at h2
  ·obtain ⟨rfl, h3⟩ := h2
   refine ⟨rfl, ?_⟩
   split at h3
   ·exact hk _ _ h3
   ·exact h3.elim
  ·exact h2.elim
 ·exact h2.elim
theorem pvopS_weaker {P : Program} {KP : Value → List Ob → Prop} {Ss : List Nat} {u : VOp} {e : Env} {H : List Ob} {K : TV → List Ob → Prop} (h : pvopS P KP Ss u e H K) : Go.Proofs.YtfgljddikcghhaaDoor.pvop P KP u e H K := by
 unfold pvopS at h
 split at h
 ·exact ⟨h.1, h.2.mono (fun x H' hx => hx.1) fun _ _ h => h⟩
 ·exact store_mono h fun x H' hx => hx.1
 ·exact h
theorem Kept.forget {Ss kp : List Nat} {e : Env} {H H' : List Ob} (h : Kept Ss e H H') : Kept Ss (Go.Proofs.YtfgljddikcghhaaDoor.forget kp e) H H' := fun s hs id ver p hg => by
 rw [get_forget] at hg
 split at hg
 ·exact h s hs id ver p hg
 ·cases hg
theorem pvopS_else {P : Program} {KP : Value → List Ob → Prop} {Ss : List Nat} {o : VOp} {e : Env} {H : List Ob} {K : TV → List Ob → Prop} (h1 : ¬ ∃ f xs, o = .s (.call f xs)) (h2 : ¬ ∃ sz x v, o = .s (.store sz x v)) : Go.Proofs.YtfgljddikcghhaaDoor.pvopS P KP Ss o e H K = pvop P KP o e H K := by
 cases o with
 | p o => rfl
 | s so =>
  cases so with
  | call f xs => exact absurd ⟨f, xs, rfl⟩ h1
  | store sz x v => exact absurd ⟨sz, x, v, rfl⟩ h2
  | _ => rfl
theorem WOk.pvopS {P : Program} {KP : Value → List Ob → Prop} {Ss : List Nat} : WOk P (pvopS P KP Ss) KP Ss := by
 refine ⟨fun hs he _ _ ht h => WSound.pvop hs he ht (pvopS_weaker h), fun {v e H K} h => ?_, fun {u e H K} h => ?_, fun {t e H K} h => h, fun {so z q e H K} hq h => pvop_mk hq (pvopS_weaker h)⟩
 ·by_cases hc : ∃ f xs, v.op = .s (.call f xs)
  ·obtain ⟨f, xs, hv⟩ := hc
   have h' : Go.Proofs.YtfgljddikcghhaaDoor.pvop P KP v.op e H fun x H' => K x H' ∧ Kept Ss e H H' := by rw [hv] at h ⊢; exact h
   have := pvop_weak h'
   rw [hv] at this ⊢
   exact ⟨this.1, this.2.mono (fun x H' hx => ⟨hx.1, hx.2.forget⟩) fun _ _ h => h⟩
  ·by_cases hst : ∃ sz x y, v.op = .s (.store sz x y)
   ·obtain ⟨sz, x, y, hv⟩ := hst
    have h' : Go.Proofs.YtfgljddikcghhaaDoor.pvop P KP v.op e H fun x H' => K x H' ∧ Kept Ss e H H' := by rw [hv] at h ⊢; exact h
    have := pvop_weak h'
    rw [hv] at this ⊢
    show Go.Proofs.YtfgljddikcghhaaDoor.pvop P KP (.s (.store sz x y)) (forget v.rd e) H fun x H' => K x H' ∧ Kept Ss (forget v.rd e) H H'
    exact store_mono this fun x H' hx => ⟨hx.1, hx.2.forget⟩
   ·rw [pvopS_else hc hst] at h ⊢
    exact pvop_weak h
 ·by_cases hc : ∃ f xs, u = .s (.call f xs)
  ·obtain ⟨f, xs, rfl⟩ := hc
   exact ⟨h.1, h.2.mono (fun x H' hx => ⟨⟨hx.1, hx.2⟩, hx.2⟩) fun _ _ h => h⟩
  ·by_cases hst : ∃ sz x y, u = .s (.store sz x y)
   ·obtain ⟨sz, x, y, rfl⟩ := hst
    have h' : Go.Proofs.YtfgljddikcghhaaDoor.pvop P KP (.s (.store sz x y)) e H fun x H' => K x H' ∧ Kept Ss e H H' := h
    show Go.Proofs.YtfgljddikcghhaaDoor.pvop P KP (.s (.store sz x y)) e H fun x' H' => (K x' H' ∧ HRel Ss (.s (.store sz x y)) e H H') ∧ Kept Ss e H H'
    exact store_mono h' fun x H' hx => ⟨⟨hx.1, hx.2⟩, hx.2⟩
   rw [pvopS_else hc hst] at h ⊢
   have h2 := pvop_rel h
   have e1 : (fun x H' => K x H' ∧ HRel Ss u e H H') = fun x H' => K x H' ∧ HRel [] u e H H' := by
    funext x H'
    cases u with
    | p o => rfl
    | s o =>
     cases o with
     | call f xs => exact absurd ⟨f, xs, rfl⟩ hc
     | store sz x v => exact absurd ⟨sz, x, v, rfl⟩ hst
     | _ => rfl
   rw [e1]; exact h2
/-- What follows: all went well, or there was a panic. -/
def Conts (N : Nat) (D : List Deferred) (c0 : Ctx) (w0 : World) (QQ : Exit → Act → World → Prop) (K : Env → List Ob → Prop) (KP : Value → List Ob → Prop) : Prop :=
 (∀ e' H' β' F' w' a', K e' H' → Sim ⟨β', H', F'⟩ w' → Fr N D ⟨β', H', F'⟩ w' e' a' → Later c0 w0 ⟨β', H', F'⟩ w' → QQ .normal a' w') ∧
 ∀ u H' β' F' w' a', KP u H' → Sim ⟨β', H', F'⟩ w' → Fr N D ⟨β', H', F'⟩ w' [] a' → Later c0 w0 ⟨β', H', F'⟩ w' → QQ (.panic [{ v := u, recovered := false }]) a' w'
/-- What was made ahead of its turn is taken up in its turn. -/
theorem InB.adopt {W : VOp → Env → List Ob → (TV → List Ob → Prop) → Prop} {KP : Value → List Ob → Prop} (hW : WOk P W KP Ss) (hc : Chk Ss ops l nA) (hll : l.length = ops.length) {c0 : Ctx} {w0 : World} {L : Array Bool} (hd : Done ops L) : ∀ (k m : Nat), ops.length - m = k → ∀ {K : Env → List Ob → Prop} {e : Env} {H : List Ob} {β : Nat → Nat → Option (Nat × Nat)} {F : Nat → Prop} {w : World} {a : Act}, nA ≤ m → m ≤ ops.length →
  (∀ i, i < ops.length → nA ≤ i → (i < m → L.getD i false = true) ∧ (m ≤ i → L.getD i false = true → early (cls ops) l nA i = true)) →
  wops W (l.drop m) K e H → Sim ⟨β, H, F⟩ w → Later c0 w0 ⟨β, H, F⟩ w → InB Ss ops l nA N D m e L w0 ⟨β, H, F⟩ w a →
  ∃ (m' : Nat) (e' : Env) (H' : List Ob) (β' : Nat → Nat → Option (Nat × Nat)), nA ≤ m' ∧ m' ≤ ops.length ∧ (m' < ops.length → L.getD m' false ≠ true) ∧ (∀ i, i < ops.length → nA ≤ i → (i < m' → L.getD i false = true) ∧ (m' ≤ i → L.getD i false = true → early (cls ops) l nA i = true)) ∧
   wops W (l.drop m') K e' H' ∧ Sim ⟨β', H', F⟩ w ∧ Later c0 w0 ⟨β', H', F⟩ w ∧ InB Ss ops l nA N D m' e' L w0 ⟨β', H', F⟩ w a := by
 intro k
 induction k with
 | zero =>
  intro m hk K e H β F w a h1 h2 hL h hs hl hB
  exact ⟨m, e, H, β, h1, h2, fun h => by omega, hL, h, hs, hl, hB⟩
 | succ k ih =>
  intro m hk K e H β F w a h1 h2 hL h hs hl hB
  by_cases hLm : L.getD m false = true
  ·have hml : m < ops.length := by omega
   have he := (hL m hml h1).2 (Nat.le_refl _) hLm
   cases hop : earlyOp (cls ops) l nA m with
   | false =>
    have hmv : earlyMov (cls ops) l nA m = true := by unfold early at he; rwa [hop, Bool.false_or] at he
    obtain ⟨d, t, h0, hz, hdt, hwr, hn⟩ := earlyMov_spec hmv
    have hdrop : l.drop m = ⟨some d, .p (.mov (.t t)), none⟩ :: l.drop (m + 1) := by
     obtain ⟨hlt, e9⟩ := List.getElem?_eq_some_iff.1 hz
     rw [List.drop_eq_getElem_cons hlt, e9]
    rw [hdrop, wops] at h
    have h' : wops W (l.drop (m + 1)) K (putE e (some d) (get e t)) H := hW.mov h
    have hval := hB.emov m d t (Nat.le_refl _) hmv hLm hz
    have hrt : Rep ⟨β, H, F⟩ w (get e t) (a.tmps.getD t undef) := hB.rep t (fun i v hf hLi hv hdd => by
      obtain ⟨_, _, _, _, hlt, _⟩ := freeOp_spec hf
      exact hLi (done_of_bit hd hml hLm (hwr i v hv (by omega) hdd))) (fun i v him hei _ hv hdd => by
      by_cases e9 : i = m
      ·subst e9; rw [hz] at hv; cases hv; cases hdd; exact hdt rfl
      ·have := bit_lt hc hml (hwr i v hv e9 hdd); omega)
    refine ih (m + 1) (by omega) (by omega) (by omega) (fun i hi hni => ⟨fun him => ?_, fun him hLi => (hL i hi hni).2 (by omega) hLi⟩) h' hs hl ⟨fun s hs1 hs2 => ?_, fun i d' o g' hf hLi hi => (by
      obtain ⟨_, _, _, _, hlt, _⟩ := freeOp_spec hf
      obtain ⟨es, p1, p2⟩ := hB.pend i d' o g' hf hLi hi
      obtain ⟨q1, q2⟩ := hn i _ hi (by omega)
      refine ⟨es, fun s hs' => ?_, fun K' hK' => p2 K' ?_⟩
      ·rw [get_putE_other (by
        intro e8; cases e8
        have := bit_lt hc (by have := (List.getElem?_eq_some_iff.1 hi).1; omega) (q2 hs'); omega)]
       exact p1 s hs'
      ·rwa [get_putE_other (by intro e8; cases e8; exact q1 rfl)] at hK'), ?_, fun j d' t' hj => hB.emov j d' t' (by omega), hB.glob, hB.size, hB.defers⟩
    ·by_cases e9 : i = m
     ·subst e9; exact hLm
     ·exact (hL i hi hni).1 (by omega)
    ·by_cases e9 : d = s
     ·subst e9
      rw [get_putE_same, hval]
      exact hrt
     ·rw [get_putE_other (by simpa using e9)]
      refine hB.rep s hs1 fun i v him he' hLi hv => ?_
      by_cases e8 : i = m
      ·subst e8; rw [hz] at hv; cases hv; simpa using e9
      ·exact hs2 i v (by omega) he' hLi hv
    ·obtain ⟨bl, b1, b2⟩ := hB.earl
     exact ⟨bl, fun i d' so' z' q' him he' => b1 i d' so' z' q' (by omega) he', fun i j hi hj => b2 i j (by omega) (by omega)⟩
   | true =>
    obtain ⟨d, so, z, q, hz, hq, hfit, _, hn⟩ := earlyOp_spec hop
    have hdrop : l.drop m = ⟨some d, .s so, none⟩ :: l.drop (m + 1) := by
     obtain ⟨hlt, e9⟩ := List.getElem?_eq_some_iff.1 hz
     rw [List.drop_eq_getElem_cons hlt, e9]
    rw [hdrop, wops] at h
    have h' : wops W (l.drop (m + 1)) K (putE e (some d) (mkT q H.length)) (H ++ [.obj 0 z]) := hW.made hq h
    obtain ⟨bl, b1, b2⟩ := hB.earl
    obtain ⟨k1, ⟨vs, t, k2, k3⟩, k4, k5, k6⟩ := b1 m d so z q (Nat.le_refl _) hop hLm hz hq
    obtain ⟨s1, s2, s3⟩ := hs.adopt k3 k2 k5 k6
    refine ih (m + 1) (by omega) (by omega) (by omega) (fun i hi hni => ⟨fun him => ?_, fun him hLi => (hL i hi hni).2 (by omega) hLi⟩) h' s1 (hl.adopt k4 rfl s2 s3) ⟨fun s hs1 hs2 => ?_, fun i d' o g' hf hLi hi => ?_, ⟨bl, fun i d' so' z' q' him he' hLi hz' hq' => ?_, fun i j hi hj => b2 i j (by omega) (by omega)⟩, fun j d' t' hj => hB.emov j d' t' (by omega), hB.glob, hB.size, hB.defers⟩
    ·by_cases e9 : i = m
     ·subst e9; exact hLm
     ·exact (hL i hi hni).1 (by omega)
    ·by_cases e9 : d = s
     ·subst e9
      rw [get_putE_same, k1]
      exact Rep.mkT (mkOf_width hq hfit) (k3 _ _) k2
     ·rw [get_putE_other (by simpa using e9)]
      refine Rep.mono s2 (hB.rep s hs1 fun i v him he' hLi hv => ?_)
      by_cases e8 : i = m
      ·subst e8; rw [hz] at hv; cases hv; simpa using e9
      ·exact hs2 i v (by omega) he' hLi hv
    ·obtain ⟨d2, o2, g2, f1, f2, f3, f4, f5⟩ := freeOp_spec hf
     rw [hi] at f1; cases f1
     have hmi : m ≠ i := by omega
     obtain ⟨es, p1, p2⟩ := hB.pend i d' o g' hf hLi hi
     have hcal : ∀ K : TV → Prop, K (get e d') → gpop g' o es (H ++ [.obj 0 z]) K := calm_stepG (Ss := Ss) (u := .s so) (e := e) (by
      rcases f3 m _ (by omega) hz with g | g | g
      ·exact .inl g
      ·exact absurd (done_of_bit hd (by omega) hLm g) hLi
      ·exact .inr g) (by cases so <;> first | exact ⟨_, rfl⟩ | (simp [mkOf] at hq)) p1 p2
     refine ⟨es, fun s hs' => ?_, fun K' hK' => hcal K' ?_⟩
     ·rw [get_putE_other (by
       intro e8; cases e8
       have h7 := (hn i _ hi (Ne.symm hmi)).2 hs'
       have := bit_lt hc (by have := (List.getElem?_eq_some_iff.1 hi).1; omega) h7; omega)]
      exact p1 s hs'
     ·rwa [get_putE_other (by simpa using (f5 m _ d hz hmi rfl).1)] at hK'
    ·obtain ⟨q1, ⟨vs', t', q2, q3⟩, q4, q5, q6⟩ := b1 i d' so' z' q' (by omega) he' hLi hz' hq'
     refine ⟨q1, ⟨vs', t', q2, q3⟩, q4, fun ho => ?_, q6⟩
     rcases s3 _ ho with ho | ho
     ·exact q5 ho
     ·have := b2 i m (by omega) (Nat.le_refl _) he' hop hLi hLm ho; omega
  ·exact ⟨m, e, H, β, h1, h2, fun _ => hLm, hL, h, hs, hl, hB⟩

/-- The second part: one by one; what is free to be done at any time is done in between. -/
theorem draw_rest {W : VOp → Env → List Ob → (TV → List Ob → Prop) → Prop} {KP : Value → List Ob → Prop} (hW : WOk P W KP Ss) (hc : Chk Ss ops l nA) (htr : trL P N ops ops = some l) {c0 : Ctx} {w0 : World} {QQ : Exit → Act → World → Prop} : ∀ (fuel m0 : Nat) {K : Env → List Ob → Prop} {e0 : Env} {H0 : List Ob} {β0 : Nat → Nat → Option (Nat × Nat)} {F : Nat → Prop} {w : World} {a : Act} {L : Array Bool}, nA ≤ m0 → m0 ≤ ops.length → Done ops L →
  (∀ i, i < ops.length → nA ≤ i → (i < m0 → L.getD i false = true) ∧ (m0 ≤ i → L.getD i false = true → early (cls ops) l nA i = true)) →
  (∀ i, i < nA → freeOp Ss (cls ops) l nA i ≠ true → L.getD i false = true) → undone ops L ≤ fuel →
  wops W (l.drop m0) K e0 H0 → Sim ⟨β0, H0, F⟩ w → Later c0 w0 ⟨β0, H0, F⟩ w → InB Ss ops l nA N D m0 e0 L w0 ⟨β0, H0, F⟩ w a →
  Conts N D c0 w0 QQ K KP → wpAnyIn (fz ro) nn P .any ops.toArray QQ fuel L a w := by
 obtain ⟨hll, hlg⟩ := trL_get htr
 have hle := hc.le
 have fin : ∀ {m : Nat} {K : Env → List Ob → Prop} {e : Env} {H : List Ob} {β : Nat → Nat → Option (Nat × Nat)} {F : Nat → Prop} {w : World} {a : Act} {L : Array Bool}, m ≤ ops.length → (m < ops.length → L.getD m false ≠ true) → (∀ i, i < ops.length → L.getD i false = true) →
   wops W (l.drop m) K e H → InB Ss ops l nA N D m e L w0 ⟨β, H, F⟩ w a → K e H ∧ Fr N D ⟨β, H, F⟩ w e a := by
  intro m K e H β F w a L h2 hmL hall h hB
  have hm : m = ops.length := by
   rcases Nat.lt_or_ge m ops.length with hlt | hge
   ·exact absurd (hall m hlt) (hmL hlt)
   ·omega
  subst hm
  rw [List.drop_eq_nil_of_le (by omega)] at h
  refine ⟨h, ⟨⟨fun s => hB.rep s (fun i v hfi hLi hv _ => ?_) (fun i v him he _ hv _ => ?_), hB.glob⟩, hB.size, hB.defers⟩⟩
  ·exact hLi (hall i (by rw [← hll]; exact (List.getElem?_eq_some_iff.1 hv).1))
  ·have := (List.getElem?_eq_some_iff.1 hv).1; omega
 intro fuel
 induction fuel with
 | zero =>
  intro m0 K e0 H0 β0 F w a L h1 h2 hd hL hF hf h hs hl hB hk
  obtain ⟨m, e, H, β, h1, h2, hmL, hL, h, hs, hl, hB⟩ := InB.adopt hW hc hll hd _ m0 rfl h1 h2 hL h hs hl hB
  have hall : ∀ i, i < ops.length → L.getD i false = true := by
   intro i hi
   have h0 : undone ops L = 0 := by omega
   unfold undone at h0
   rw [List.length_eq_zero_iff, List.filter_eq_nil_iff] at h0
   have := h0 i (by simpa using hi)
   simpa using this
  obtain ⟨k1, k2⟩ := fin h2 hmL hall h hB
  refine ⟨?_, hk.1 _ _ _ _ _ _ k1 hs k2 hl⟩
  rw [List.eq_nil_iff_forall_not_mem]
  intro i hi
  obtain ⟨o, ho, h3, _⟩ := mem_ready hi
  have hil : i < ops.length := (List.getElem?_eq_some_iff.1 ho).1
  have := hall i hil
  have hiL : i < L.size := by rw [hd.size]; exact hil
  rw [Array.getD_eq_getD_getElem?, Array.getElem?_eq_getElem hiL] at h3 this
  simp at h3 this; rw [h3] at this; cases this
 | succ fuel ih =>
  intro m0 K e0 H0 β0 F w a L h1 h2 hd hL hF hf h hs hl hB hk
  obtain ⟨m, e, H, β, h1, h2, hmL, hL, h, hs, hl, hB⟩ := InB.adopt hW hc hll hd _ m0 rfl h1 h2 hL h hs hl hB
  refine ⟨fun h0 => ?_, fun i hi => ?_⟩
  ·obtain ⟨k1, k2⟩ := fin h2 hmL (first_ready hc hd h0) h hB
   exact hk.1 _ _ _ _ _ _ k1 hs k2 hl
  ·obtain ⟨o, ho, h3, h4⟩ := mem_ready hi
   have hil : i < ops.length := (List.getElem?_eq_some_iff.1 ho).1
   have hiL : i < L.size := by rw [hd.size]; exact hil
   have h3' : ¬ (L.getD i false = true) := by
    rw [Array.getD_eq_getD_getElem?, Array.getElem?_eq_getElem hiL] at h3 ⊢; simp at h3 ⊢; exact h3
   have hd' := hd.set hi
   have hu := undone_set hd hi
   have hmono : ∀ j, (L.setIfInBounds i true).getD j false = true → j = i ∨ L.getD j false = true := by
    intro j hj
    by_cases hij : i = j
    ·exact .inl hij.symm
    ·right
     rw [Array.getD_eq_getD_getElem?, Array.getElem?_setIfInBounds_ne hij, ← Array.getD_eq_getD_getElem?] at hj; exact hj
   have hkeep : ∀ j, L.getD j false = true → (L.setIfInBounds i true).getD j false = true := by
    intro j hj
    by_cases hij : i = j
    ·subst hij; simp [hiL]
    ·rw [Array.getD_eq_getD_getElem?, Array.getElem?_setIfInBounds_ne hij, ← Array.getD_eq_getD_getElem?]; exact hj
   have hset : (L.setIfInBounds i true).getD i false = true := by simp [hiL]
   obtain ⟨v, hv1, hv2, hv3, hv4, hv5⟩ := hlg i o ho
   have hd5 : v.dst.all (· < N) = true := by rw [hv4]; exact hv5
   have hF' : ∀ j, j < nA → freeOp Ss (cls ops) l nA j ≠ true → (L.setIfInBounds i true).getD j false = true := fun j hj hfj => hkeep j (hF j hj hfj)
   rcases Nat.lt_or_ge i nA with hin | hin
   ·-- one that is free
    have hfr : freeOp Ss (cls ops) l nA i = true := by
     cases hb : freeOp Ss (cls ops) l nA i with
     | true => rfl
     | false => exact absurd (hF i hin (by rw [hb]; simp)) h3'
    obtain ⟨d, po, gg, e1, _, e2, e3, e4⟩ := freeOp_spec hfr
    obtain ⟨es, p1, hp⟩ := hB.pend i d po gg hfr h3' e1
    rw [hv1] at e1
    obtain rfl := Option.some.inj e1
    have hdN : d < a.tmps.size := by rw [hB.size]; simpa using hd5
    have hod : o.dst = some d := hv4.symm
    have hnearly : m ≤ i → earlyOp (cls ops) l nA i ≠ true := fun h => by omega
    refine okq_step (all := ops) (x := get e d) (e := forget (VO.mk (some d) (.p po) gg).rd es) hv2 hv3 hs ⟨fun s' => ?_, hs.glob⟩ ?_ ho ?_
    ·rw [get_forget]
     split
     ·rename_i hs'
      rcases p1 s' hs' with p1 | p1
      case inr => rw [p1]; exact Rep.any
      rw [p1]
      refine hB.rep s' (fun k vk hfk hLk hvk hdk => ?_) (fun k vk hmk hek hLk hvk hdk => ?_)
      ·-- what it looks at stands ahead of it
       have hki : k ≠ i := fun h9 => by subst h9; rw [hv1] at hvk; cases hvk; cases hdk; exact e3 hs'
       obtain ⟨_, _, _, _, hkA, _⟩ := freeOp_spec hfk
       have hsrd : s' ∈ (VO.mk (some d) (.p po) gg).rd := hs'
       rcases hc.read i k _ vk s' hin hkA hv1 hvk hdk hsrd with hb | hb
       ·exact hLk (wait_all hc hd hi hb)
       ·have hik := bit_lt hc (by omega) hb
        rcases (e4 k vk s' hvk hki hdk).2 with g | g | g
        ·exact g hs'
        ·omega
        ·omega
      ·obtain ⟨_, _, hz, _, hn⟩ := early_spec hek
       rw [hz] at hvk; cases hvk; cases hdk
       have hb := (hn i _ hv1 (by omega)).2 hs'
       have := bit_lt hc hil hb; omega
     ·exact Rep.any
    ·exact Okq_congr (e := es) (fun s hs' => by rw [get_forget, if_pos hs']) (okq_of_gpop hp)
    ·intro β' F' w' u hs' hl' hx
     have hm := hl'.mono hs
     refine ih m h1 h2 hd' (fun j hj hnj => ⟨fun hjm => hkeep j ((hL j hj hnj).1 hjm), fun hmj hh => (hL j hj hnj).2 hmj ((hmono j hh).resolve_left (by omega))⟩) hF' (by omega) h hs' (hl.trans hl') ⟨fun s hs1 hs2 => ?_, fun k dk ok gk hfk hLk hk' => ?_, ?_, emov_keep hll hd hv1 hv4 h3' (Nat.le_refl _) (fun j hj he e => by omega) hB.emov, hB.glob.keep hm.stay, by rw [put_size]; exact hB.size, by rw [put_defers]; exact hB.defers⟩ hk
     ·by_cases hsd : d = s
      ·subst hsd; rw [hod, put_same hdN]; exact hx
      ·rw [put_other (by rw [hod]; simpa using hsd)]
       refine Rep.mono hm (hB.rep s (fun k vk hfk hLk hvk hdk => ?_) (fun k vk hmk hek hLk hvk => hs2 k vk hmk hek (hkeep k hLk) hvk))
       by_cases hki : k = i
       ·subst hki; rw [hv1] at hvk; cases hvk; exact hsd (by simpa using hdk)
       ·exact hs1 k vk hfk (fun hh => (hmono k hh).elim hki hLk) hvk hdk
     ·exact hB.pend k dk ok gk hfk (fun hh => hLk (hkeep k hh)) hk'
     ·refine hB.earl.step hl' (Nat.le_refl _) (fun k dk so hmk hek hz _ => ?_) hnearly
      obtain ⟨_, _, _, _, hz', _, _, _, hn⟩ := earlyOp_spec hek
      rw [hz] at hz'; cases hz'
      rw [hod]; exact (hn i _ hv1 (by omega)).1
   ·have hnf : ∀ k, nA ≤ k → freeOp Ss (cls ops) l nA k ≠ true := fun k hk hf' => by obtain ⟨_, _, _, _, h9, _⟩ := freeOp_spec hf'; omega
    have him : m ≤ i := by
     rcases Nat.lt_or_ge i m with h5 | h5
     ·exact absurd ((hL i hil hin).1 h5) h3'
     ·exact h5
    have hml : m < ops.length := by omega
    by_cases hieq : i = m
    ·subst hieq
     have hdrop : l.drop i = v :: l.drop (i + 1) := by
      obtain ⟨hlt, rfl⟩ := List.getElem?_eq_some_iff.1 hv1
      rw [List.drop_eq_getElem_cons hlt]
     rw [hdrop, wops] at h
     have hL' : ∀ j, j < ops.length → nA ≤ j → (j < i + 1 → (L.setIfInBounds i true).getD j false = true) ∧ (i + 1 ≤ j → (L.setIfInBounds i true).getD j false = true → early (cls ops) l nA j = true) := by
      intro j hj hnj
      refine ⟨fun hji => ?_, fun hij hh => (hL j hj hnj).2 (by omega) ((hmono j hh).resolve_left (by omega))⟩
      by_cases e9 : j = i
      ·subst e9; exact hset
      ·exact hkeep j ((hL j hj hnj).1 (by omega))
     -- what it reads is neither to be done still nor made ahead
     have hread : ∀ s ∈ v.rd, (∀ k u, freeOp Ss (cls ops) l nA k = true → L.getD k false ≠ true → l[k]? = some u → u.dst ≠ some s) ∧ (∀ k u, i ≤ k → early (cls ops) l nA k = true → L.getD k false = true → l[k]? = some u → u.dst ≠ some s) := by
      intro s hsr
      refine ⟨fun k u hfk hLk hu hud => ?_, fun k u hik hek hLk hu hud => ?_⟩
      ·by_cases hea : early (cls ops) l nA i = true
       ·unfold early at hea
        rw [Bool.or_eq_true] at hea
        rcases hea with hea | hea
        ·obtain ⟨_, so, _, _, hz, hq, _⟩ := earlyOp_spec hea
         rw [hv1] at hz; cases hz
         rw [mkOf_rd hq] at hsr; cases hsr
        ·obtain ⟨d9, t9, _, hz9, _, hwr9, _⟩ := earlyMov_spec hea
         rw [hv1] at hz9; cases hz9
         obtain ⟨_, _, _, _, hkA, _⟩ := freeOp_spec hfk
         have hst : s = t9 := by simpa [VO.rd, POp.rd, Opd.rd] using hsr
         exact hLk (wait_all hc hd hi (hwr9 k u hu (by omega) (by rw [hud, hst])))
       ·obtain ⟨_, _, _, _, hkA, _⟩ := freeOp_spec hfk
        rcases hc.wait i hil hin hea k (by omega) with hw | ⟨_, hw⟩
        ·exact hLk (wait_all hc hd hi hw)
        ·exact hw v u s hv1 hu hud hsr
      ·obtain ⟨_, _, hz, _, hn⟩ := early_spec hek
       rw [hz] at hu; cases hu; cases hud
       have hki : i ≠ k := fun h9 => h3' (h9 ▸ hLk)
       have := bit_lt hc hil ((hn i v hv1 hki).2 hsr); omega
     have hpdst : ∀ k dk ok gk, freeOp Ss (cls ops) l nA k = true → L.getD k false ≠ true → l[k]? = some ⟨some dk, .p ok, gk⟩ → v.dst ≠ some dk ∧ ∀ d, v.dst = some d → ¬ d ∈ (VO.mk (some dk) (.p ok) gk).rd := by
      intro k dk ok gk hfk hLk hk'
      obtain ⟨dk', ok', gk', f1, f0, f2, f3, f4⟩ := freeOp_spec hfk
      rw [hk'] at f1; cases f1
      refine ⟨fun hvd => (f4 i v dk hv1 (by omega) hvd).1 rfl, fun d hvd => ?_⟩
      rcases (f4 i v d hv1 (by omega) hvd).2 with g | g | ⟨_, g⟩
      ·exact g
      ·omega
      ·exact absurd (wait_all hc hd hi g) hLk
     have step : ∀ {e : Env} {x : TV} {H' : List Ob} {β' : Nat → Nat → Option (Nat × Nat)} {F' : Nat → Prop} {w' : World} {u : Value}, InB Ss ops l nA N D i e L w0 ⟨β, H, F⟩ w a → wops W (l.drop (i + 1)) K (putE e v.dst x) H' → Sim ⟨β', H', F'⟩ w' → Later ⟨β, H, F⟩ w ⟨β', H', F'⟩ w' → Rep ⟨β', H', F'⟩ w' x u → (H' = H ∨ HRel Ss v.op e H H') → wpAnyIn (fz ro) nn P .any ops.toArray QQ fuel (L.setIfInBounds i true) (a.put o.dst u) w' := by
      intro e x H' β' F' w' u hB hK hs' hl' hx hrel
      have hm := hl'.mono hs
      rw [← hv4]
      refine ih (i + 1) (by omega) (by omega) hd' hL' hF' (by omega) hK hs' (hl.trans hl') ⟨fun s hs1 hs2 => ?_, fun k dk ok gk hfk hLk hk' => ?_, ?_, emov_keep hll hd hv1 rfl h3' (by omega) (fun j hj he e => by omega) hB.emov, hB.glob.keep hm.stay, by rw [put_size]; exact hB.size, by rw [put_defers]; exact hB.defers⟩ hk
      ·by_cases hvs : v.dst = some s
       ·rw [hvs, get_putE_same, put_same (by rw [hB.size]; rw [hvs] at hd5; simpa using hd5)]; exact hx
       ·rw [get_putE_other hvs, put_other hvs]
        refine Rep.mono hm (hB.rep s (fun k vk hfk hLk hvk hdk => hs1 k vk hfk (fun hh => (hmono k hh).elim (fun e => hnf i hin (e ▸ hfk)) hLk) hvk hdk) (fun k vk hmk hek hLk hvk => ?_))
        have hki : k ≠ i := fun h9 => h3' (h9 ▸ hLk)
        exact hs2 k vk (by omega) hek (hkeep k hLk) hvk
      ·have hLk' : L.getD k false ≠ true := fun hh => hLk (hkeep k hh)
       obtain ⟨g1, g2⟩ := hpdst k dk ok gk hfk hLk' hk'
       obtain ⟨es, p1, p2⟩ := hB.pend k dk ok gk hfk hLk' hk'
       have hcal : ∀ K : TV → Prop, K (get e dk) → gpop gk ok es H' K := by
        rcases hrel with rfl | hrel
        ·exact p2
        ·obtain ⟨dk', ok', gk', f1, f0, f2, f3, f4⟩ := freeOp_spec hfk
         rw [hk'] at f1; cases f1
         refine calm_stepG (u := v.op) (e := e) ?_ hrel p1 p2
         rcases f2 i v hin hv1 with g | g | g
         ·exact .inl g
         ·exact absurd (wait_all hc hd hi g) hLk'
         ·exact .inr g
       exact ⟨es, fun s hs' => by rw [get_putE_other fun h9 => g2 s h9 hs']; exact p1 s hs', fun K' hK' => hcal K' (by rwa [get_putE_other g1] at hK')⟩
      ·refine hB.earl.step hl' (by omega) (fun k dk so hmk hek hz _ => ?_) (fun h9 => by omega)
       obtain ⟨_, _, _, _, hz', _, _, _, hn⟩ := earlyOp_spec hek
       rw [hz] at hz'; cases hz'
       exact (hn i v hv1 (by omega)).1
     have go : ∀ {e : Env}, InB Ss ops l nA N D i e L w0 ⟨β, H, F⟩ w a → W v.op e H (fun x H => wops W (l.drop (i + 1)) K (putE e v.dst x) H) → o.wpIn (fz ro) nn P a w (wpAnyIn (fz ro) nn P .any ops.toArray QQ fuel (L.setIfInBounds i true)) QQ := fun {e} hB h => by
      replace h := hW.rel h
      replace h := hW.weak h
      have henv : EnvOk ⟨β, H, F⟩ w (forget v.rd e) a := ⟨fun s => by
       rw [get_forget]
       split
       ·rename_i hs'; exact hB.rep s (hread s hs').1 (hread s hs').2
       ·exact Rep.any, hs.glob⟩
      refine hW.sound hs henv hv2 h o _ QQ rfl (trV_nd hv2) ?_ (fun u H' β' F' w' hK hs' hl' => hk.2 u H' β' F' w' a hK hs' ⟨⟨fun _ => Rep.any, hs'.glob⟩, hB.size, hB.defers⟩ (hl.trans hl')) ro nn
      intro x H' β' F' w' u hK hs' hl hx
      exact step hB hK.1 hs' hl hx (.inr hK.2)
     unfold wpOpIn
     simp only [List.getElem?_toArray, ho]
     cases hog : o.guard with
     | none =>
      rw [hog] at hv3
      simp only [trG, Option.some.injEq] at hv3
      rw [← hv3] at h
      have : Region.wanted o (yielded ops.toArray a.tmps) = true := by simp [Region.wanted, hog]
      rw [if_pos this]
      exact (go hB h)
     | some jb =>
      obtain ⟨j, b⟩ := jb
      rw [hog] at hv3
      simp only [trG] at hv3
      split at hv3
      ·rename_i s hj
       simp only [Option.some.injEq] at hv3
       rw [← hv3] at h
       simp only at h
       have hsrd : s ∈ v.rd := by unfold VO.rd; rw [← hv3]; simp
       have hsr := hB.rep s (hread s hsrd).1 (hread s hsrd).2
       obtain ⟨e', hB', h⟩ : ∃ e', InB Ss ops l nA N D i e' L w0 ⟨β, H, F⟩ w a ∧ (match isB (a.tmps.getD s undef) with
         | some t => if t = b then W v.op e' H fun x H => wops W (l.drop (i + 1)) K (putE e' v.dst x) H else wops W (l.drop (i + 1)) K (putE e' v.dst (.val undef)) H
         | none => wops W (l.drop (i + 1)) K (putE e' v.dst (.val undef)) H) := by
        unfold knowB at h
        split at h
        ·rename_i v0 hv0
         rw [hv0, Rep.val] at hsr
         exact ⟨e, hB, by rw [hsr]; exact h⟩
        ·rename_i hany
         refine ⟨(s, .val (a.tmps.getD s undef)) :: e, ⟨fun s' hs1 hs2 => ?_, fun k dk ok gk hfk hLk hk' => ?_, hB.earl, hB.emov, hB.glob, hB.size, hB.defers⟩, ?_⟩
         ·rw [get_cons]
          split
          ·rename_i hss; subst hss; exact Rep.of_val
          ·exact hB.rep s' hs1 hs2
         ·obtain ⟨es, p1, p2⟩ := hB.pend k dk ok gk hfk hLk hk'
          refine ⟨es, fun s' hs' => ?_, fun K' hK' => p2 K' ?_⟩
          ·rw [get_cons]
           split
           ·rename_i hss; subst hss
            rcases p1 s hs' with p1 | p1
            ·exact .inr (p1.trans hany)
            ·exact .inr p1
           ·exact p1 s' hs'
          ·rwa [get_cons, if_neg (fun e => (hread s hsrd).1 k _ hfk hLk hk' (by rw [e]))] at hK'
         ·cases hb : isB (a.tmps.getD s undef) with
          | none => exact h.2 _ hb
          | some t =>
           have : a.tmps.getD s undef = .bool t := by
            generalize a.tmps.getD s undef = v at hb
            cases v <;> simp [isB] at hb
            rw [hb]
           rw [this]; exact h.1 t
        ·exact h.elim
       have hy : yielded ops.toArray a.tmps j = isB (a.tmps.getD s undef) := yielded_is (by simpa using hj)
       have skip : wops W (l.drop (i + 1)) K (putE e' v.dst (.val undef)) H → wpAnyIn (fz ro) nn P .any ops.toArray QQ fuel (L.setIfInBounds i true) (a.put o.dst undef) w := fun h => step hB' h hs (Later.refl _ _) Rep.of_val (.inl rfl)
       cases hq : isB (a.tmps.getD s undef) with
       | some t =>
        rw [hq] at h hy
        by_cases htb : t = b
        ·subst htb
         have : Region.wanted o (yielded ops.toArray a.tmps) = true := by simp [Region.wanted, hog, hy]
         rw [if_pos this]
         simp only [if_true] at h
         exact (go hB' h)
        ·have : ¬ (Region.wanted o (yielded ops.toArray a.tmps) = true) := by simp [Region.wanted, hog, hy, htb]
         rw [if_neg this]
         simp only [htb, if_false] at h
         exact ⟨fun _ _ => trivial, skip h⟩
       | none =>
        rw [hq] at h hy
        have : ¬ (Region.wanted o (yielded ops.toArray a.tmps) = true) := by simp [Region.wanted, hog, hy]
        rw [if_neg this]
        exact ⟨fun _ _ => trivial, skip h⟩
      ·cases hv3
    ·-- made ahead of its turn
     have hea : early (cls ops) l nA i = true := by
      refine Classical.byContradiction fun hne => ?_
      have hmi : m < i := by omega
      rcases hc.wait i hil hin hne m hmi with hw | hw
      ·exact hmL hml (wait_all hc hd hi hw)
      ·exact hnf m h1 hw.1
     cases hop : earlyOp (cls ops) l nA i with
     | false =>
      have hmv : earlyMov (cls ops) l nA i = true := by unfold early at hea; rwa [hop, Bool.false_or] at hea
      obtain ⟨d, t, hnA0, hz, hdt, hwr, hn⟩ := earlyMov_spec hmv
      rw [hv1] at hz; cases hz
      have hod : o.dst = some d := hv4.symm
      have hdN : d < a.tmps.size := by rw [hB.size]; simpa using hd5
      have hg : o.guard = none := by
       cases hog : o.guard with
       | none => rfl
       | some jb => obtain ⟨j, b⟩ := jb; rw [hog] at hv3; simp only [trG] at hv3; split at hv3 <;> simp at hv3
      refine okq_step (all := ops) (x := .val (a.tmps.getD t undef)) (e := [(t, .val (a.tmps.getD t undef))]) hv2 hv3 hs ⟨fun s' => ?_, hs.glob⟩ ?_ ho ?_
      ·rw [get_cons]
       split
       ·rename_i e; subst e; exact Rep.of_val
       ·exact Rep.any
      ·show Qt P (.p (.mov (.t t))) _ H _
       intro KK hKK
       show KK (get [(t, .val (a.tmps.getD t undef))] t)
       rw [get_cons, if_pos rfl]; exact hKK
      ·intro β' F' w' u hs' hl' hx
       rw [Rep.val] at hx
       have hm := hl'.mono hs
       rw [hod]
       have hdi : ∀ j, m ≤ j → earlyMov (cls ops) l nA j = true → j ≠ i → j ≠ i := fun _ _ _ h => h
       refine ih m h1 h2 hd' (fun j hj hnj => ⟨fun hjm => hkeep j ((hL j hj hnj).1 hjm), fun hmj hh => (hmono j hh).elim (fun e => e ▸ hea) ((hL j hj hnj).2 hmj)⟩) hF' (by omega) h hs' (hl.trans hl') ⟨fun s hs1 hs2 => ?_, fun k dk ok gk hfk hLk hk' => hB.pend k dk ok gk hfk (fun hh => hLk (hkeep k hh)) hk', ?_, ?_, hB.glob.keep hm.stay, by rw [put_size]; exact hB.size, by rw [put_defers]; exact hB.defers⟩ hk
       ·have hsd : d ≠ s := fun e9 => hs2 i _ him hea hset hv1 (by rw [e9])
        rw [put_other (by simpa using hsd)]
        exact Rep.mono hm (hB.rep s (fun k vk hfk hLk hvk => hs1 k vk hfk (fun hh => (hmono k hh).elim (fun e => hnf i hin (e ▸ hfk)) hLk) hvk) (fun k vk hmk hek hLk hvk => hs2 k vk hmk hek (hkeep k hLk) hvk))
       ·refine hB.earl.step hl' (Nat.le_refl _) (fun k dk so hmk hek hz9 _ => ?_) (fun _ => by rw [hop]; simp)
        obtain ⟨_, _, _, _, hz', _, _, _, hn9⟩ := earlyOp_spec hek
        rw [hz9] at hz'; cases hz'
        exact (hn9 i _ hv1 (fun e => by subst e; rw [hv1] at hz9; cases hz9)).1
       ·intro j d' t' hj he hLj hz9
        by_cases hji : j = i
        ·subst hji
         rw [hv1] at hz9; cases hz9
         rw [put_same hdN, put_other (by simpa using hdt)]
         exact hx
        ·exact emov_keep1 hll hd hv1 rfl h3' hB.emov hj he hji hLj hz9
     | true =>
      obtain ⟨d, so, z, q, hz, hq, hfit, _, hn⟩ := earlyOp_spec hop
      rw [hv1] at hz; cases hz
      have hod : o.dst = some d := hv4.symm
      have hdN : d < a.tmps.size := by rw [hB.size]; simpa using hd5
      have hg : o.guard = none := by
       cases hog : o.guard with
       | none => rfl
       | some jb => obtain ⟨j, b⟩ := jb; rw [hog] at hv3; simp only [trG] at hv3; split at hv3 <;> simp at hv3
      unfold wpOpIn
      simp only [List.getElem?_toArray, ho]
      have : Region.wanted o (yielded ops.toArray a.tmps) = true := by simp [Region.wanted, hg]
      rw [if_pos this]
      refine mk_raw hv2 hq hfit (fun vs t' hr => ?_) ro nn
      rw [hod]
      obtain ⟨s1, s2⟩ := hs.extra (.cells vs.toArray t' (0, 0))
      have hm := s2.mono hs
      refine ih m h1 h2 hd' (fun j hj hnj => ⟨fun hjm => hkeep j ((hL j hj hnj).1 hjm), fun hmj hh => (hmono j hh).elim (fun e => e ▸ hea) ((hL j hj hnj).2 hmj)⟩) hF' (by omega) h s1 (hl.trans s2) ⟨fun s hs1 hs2 => ?_, fun k dk ok gk hfk hLk hk' => hB.pend k dk ok gk hfk (fun hh => hLk (hkeep k hh)) hk', hB.earl.more hs hl.size hv1 hq hop hr hdN, emov_keep hll hd hv1 rfl h3' (Nat.le_refl _) (fun j hj he e => by subst e; obtain ⟨_, _, _, hz9, _⟩ := earlyMov_spec he; rw [hv1] at hz9; cases hz9) hB.emov, hB.glob.keep hm.stay, by rw [put_size]; exact hB.size, by rw [put_defers]; exact hB.defers⟩ hk
      have hsd : d ≠ s := fun e9 => hs2 i _ him hea hset hv1 (by rw [e9])
      rw [put_other (by simpa using hsd)]
      exact Rep.mono hm (hB.rep s (fun k vk hfk hLk hvk => hs1 k vk hfk (fun hh => (hmono k hh).elim (fun e => hnf i hin (e ▸ hfk)) hLk) hvk) (fun k vk hmk hek hLk hvk => hs2 k vk hmk hek (hkeep k hLk) hvk))

/-- The first part: in any order. -/
structure InA (ops : List Oper) (l : List VO) (nA N : Nat) (D : List Deferred) (xs : List TV) (e0 : Env) (L : Array Bool) (w0 : World) (c : Ctx) (w : World) (a : Act) : Prop where
 did : ∀ i v x d, i < nA → L.getD i false = true → l[i]? = some v → xs[i]? = some x → v.dst = some d → Rep c w x (a.tmps.getD d undef)
 not : ∀ s, (∀ i v, i < nA → L.getD i false = true → l[i]? = some v → v.dst ≠ some s) → (∀ i v, nA ≤ i → early (cls ops) l nA i = true → L.getD i false = true → l[i]? = some v → v.dst ≠ some s) → Rep c w (get e0 s) (a.tmps.getD s undef)
 earl : Earl ops l nA nA L w0 c w a
 emov : ∀ j d t, nA ≤ j → earlyMov (cls ops) l nA j = true → L.getD j false = true → l[j]? = some ⟨some d, .p (.mov (.t t)), none⟩ → a.tmps.getD d undef = a.tmps.getD t undef
 size : a.tmps.size = N
 defers : a.defers = D

theorem draw_first {W : VOp → Env → List Ob → (TV → List Ob → Prop) → Prop} {KP : Value → List Ob → Prop} (hW : WOk P W KP Ss) (hc : Chk Ss ops l nA) (htr : trL P N ops ops = some l) {c0 : Ctx} {w0 : World} {QQ : Exit → Act → World → Prop} {K : Env → List Ob → Prop} {e0 : Env} {H : List Ob} {xs : List TV} (hxl : xs.length = nA) (hok : ∀ (i : Nat) o x, (l.take nA)[i]? = some o → xs[i]? = some x → Okq P o (putAll e0 ((l.take nA).take i) (xs.take i)) H x)
  (hK : wops W (l.drop nA) K (putAll e0 (l.take nA) xs) H) : ∀ (fuel : Nat) {β : Nat → Nat → Option (Nat × Nat)} {F : Nat → Prop} {w : World} {a : Act} {L : Array Bool}, Done ops L → undone ops L ≤ fuel →
  (∀ i, i < ops.length → nA ≤ i → L.getD i false = true → early (cls ops) l nA i = true) → Sim ⟨β, H, F⟩ w → Later c0 w0 ⟨β, H, F⟩ w → InA ops l nA N D xs e0 L w0 ⟨β, H, F⟩ w a →
  Conts N D c0 w0 QQ K KP → wpAnyIn (fz ro) nn P .any ops.toArray QQ fuel L a w := by
 obtain ⟨hll, hlg⟩ := trL_get htr
 have hle := hc.le
 have htl : (l.take nA).length = nA := by rw [List.length_take]; omega
 -- what the slots hold when all of the first part is done
 have hfin : ∀ (β : Nat → Nat → Option (Nat × Nat)) (F : Nat → Prop) (w : World) (a : Act) (L : Array Bool) (s : Nat), InA ops l nA N D xs e0 L w0 ⟨β, H, F⟩ w a → (∀ i v, nA ≤ i → early (cls ops) l nA i = true → L.getD i false = true → l[i]? = some v → v.dst ≠ some s) → (∀ j u, j < nA → l[j]? = some u → u.dst = some s → L.getD j false = true) → Rep ⟨β, H, F⟩ w (get (putAll e0 (l.take nA) xs) s) (a.tmps.getD s undef) := by
  intro β F w a L s hA hse hw
  by_cases hex : ∃ j u, j < nA ∧ l[j]? = some u ∧ u.dst = some s
  ·obtain ⟨j, u, hj, hu, hus⟩ := hex
   have hxj : ∃ x, xs[j]? = some x := ⟨xs[j]'(by omega), by simp [show j < xs.length from by omega]⟩
   obtain ⟨x, hx⟩ := hxj
   have hu' : (l.take nA)[j]? = some u := by rw [List.getElem?_take, if_pos hj]; exact hu
   rw [get_putAll_some hu' hx hus fun j' o' ho' hne hd' => hne (by
    rw [List.getElem?_take] at ho'
    split at ho'
    ·rename_i hj'; exact hc.once j' j o' u s hj' hj ho' hu hus hd'
    ·cases ho')]
   exact hA.did j u x s hj (hw j u hj hu hus) hu hx hus
  ·rw [get_putAll_none fun j o ho hd => hex ⟨j, o, by
    rw [List.getElem?_take] at ho
    split at ho
    ·rename_i hj; exact ⟨hj, ho, hd⟩
    ·cases ho⟩]
   exact hA.not s (fun i v hi _ hv hd => hex ⟨i, v, hi, hv, hd⟩) hse
 have toB : ∀ (β : Nat → Nat → Option (Nat × Nat)) (F : Nat → Prop) (w : World) (a : Act) (L : Array Bool), Done ops L → Sim ⟨β, H, F⟩ w → InA ops l nA N D xs e0 L w0 ⟨β, H, F⟩ w a → (∀ i, i < nA → freeOp Ss (cls ops) l nA i ≠ true → L.getD i false = true) → InB Ss ops l nA N D nA (putAll e0 (l.take nA) xs) L w0 ⟨β, H, F⟩ w a := by
  intro β F w a L hd hs hA hall
  refine ⟨fun s hsn hse => hfin β F w a L s hA hse fun j u hj hu hus => ?_, fun i d o g hfi hLi hi => ?_, hA.earl, hA.emov, hs.glob, hA.size, hA.defers⟩
  ·by_cases hLj : L.getD j false = true
   ·exact hLj
   ·by_cases hfj : freeOp Ss (cls ops) l nA j = true
    ·exact absurd hus (hsn j u hfj hLj hu)
    ·exact hall j hj hfj
  ·obtain ⟨d', o', g', f1, f0, f2, f3, f4⟩ := freeOp_spec hfi
   rw [hi] at f1; cases f1
   have hxi : xs[i]? = some (xs[i]'(by omega)) := by simp [show i < xs.length from by omega]
   generalize xs[i]'(by omega) = y at hxi
   have hit : (l.take nA)[i]? = some ⟨some d, .p o, g⟩ := by rw [List.getElem?_take, if_pos f0]; exact hi
   have hq : Okq P ⟨some d, .p o, g⟩ (putAll e0 ((l.take nA).take i) (xs.take i)) H y := hok i _ y hit hxi
   have hgs := get_putAll_some (e := e0) hit hxi rfl fun j' o' ho' hne hd' => by
    rw [List.getElem?_take] at ho'
    split at ho'
    ·exact (f4 j' o' d ho' hne hd').1 rfl
    ·cases ho'
   refine ⟨putAll e0 ((l.take nA).take i) (xs.take i), fun s hs' => .inl ?_, fun K' hK' => ?_⟩
   ·-- what it looks at is written by none behind it
    by_cases hex : ∃ j u, j < nA ∧ l[j]? = some u ∧ u.dst = some s
    ·obtain ⟨j, u, hj, hu, hus⟩ := hex
     have hji : j ≠ i := fun h9 => by subst h9; rw [hi] at hu; cases hu; cases hus; exact f3 hs'
     have hjlt : j < i := by
      rcases (f4 j u s hu hji hus).2 with g | g | g
      ·exact absurd hs' g
      ·exact g
      ·omega
     have honce : ∀ (j' : Nat) o', l[j']? = some o' → j' < nA → j' ≠ j → o'.dst ≠ some s := fun j' o' ho' hj' hne hd' => hne (hc.once j' j o' u s hj' hj ho' hu hus hd')
     have hxj : xs[j]? = some (xs[j]'(by omega)) := by simp [show j < xs.length from by omega]
     have hu' : (l.take nA)[j]? = some u := by rw [List.getElem?_take, if_pos hj]; exact hu
     rw [get_putAll_some (l := (l.take nA).take i) (i := j) (by rw [List.getElem?_take, if_pos hjlt]; exact hu') (by rw [List.getElem?_take, if_pos hjlt]; exact hxj) hus fun j' o' ho' hne => by
      rw [List.getElem?_take] at ho'
      split at ho'
      ·rw [List.getElem?_take] at ho'
       split at ho'
       ·rename_i hj'; exact honce j' o' ho' hj' hne
       ·cases ho'
      ·cases ho']
     rw [get_putAll_some hu' hxj hus fun j' o' ho' hne => by
      rw [List.getElem?_take] at ho'
      split at ho'
      ·rename_i hj'; exact honce j' o' ho' hj' hne
      ·cases ho']
    ·rw [get_putAll_none fun j o' ho' hd' => hex ⟨j, o', by
      rw [List.getElem?_take] at ho'
      split at ho'
      ·rw [List.getElem?_take] at ho'
       split at ho'
       ·rename_i hj'; exact ⟨hj', ho', hd'⟩
       ·cases ho'
      ·cases ho'⟩]
     rw [get_putAll_none fun j o' ho' hd' => hex ⟨j, o', by
      rw [List.getElem?_take] at ho'
      split at ho'
      ·rename_i hj'; exact ⟨hj', ho', hd'⟩
      ·cases ho'⟩]
   ·rw [hgs] at hK'
    exact gpop_of_okq hq K' hK'
 intro fuel
 induction fuel with
 | zero =>
  intro β F w a L hd hf hLA hs hl0 hA hk
  have hall : ∀ i, i < ops.length → L.getD i false = true := by
   intro i hi
   have h0 : undone ops L = 0 := by omega
   unfold undone at h0
   rw [List.length_eq_zero_iff, List.filter_eq_nil_iff] at h0
   have := h0 i (by simpa using hi)
   simpa using this
  exact draw_rest hW hc htr 0 nA (Nat.le_refl _) hle hd (fun i hi hn => ⟨fun h => by omega, fun _ h => hLA i hi hn h⟩) (fun i hi _ => hall i (by omega)) hf hK hs hl0 (toB β F w a L hd hs hA fun i hi _ => hall i (by omega)) hk
 | succ fuel ih =>
  intro β F w a L hd hf hLA hs hl0 hA hk
  by_cases hall : ∀ i, i < nA → freeOp Ss (cls ops) l nA i ≠ true → L.getD i false = true
  ·exact draw_rest hW hc htr (fuel + 1) nA (Nat.le_refl _) hle hd (fun i hi hn => ⟨fun h => by omega, fun _ h => hLA i hi hn h⟩) hall hf hK hs hl0 (toB β F w a L hd hs hA hall) hk
  ·refine ⟨fun h0 => absurd (fun i hi _ => first_ready hc hd h0 i (by omega)) hall, fun i hi => ?_⟩
   obtain ⟨o, ho, h3, h4⟩ := mem_ready hi
   have hil : i < ops.length := (List.getElem?_eq_some_iff.1 ho).1
   have hiL : i < L.size := by rw [hd.size]; exact hil
   obtain ⟨v, hv1, hv2, hv3, hv4, hv5⟩ := hlg i o ho
   have hd5 : v.dst.all (· < N) = true := by rw [hv4]; exact hv5
   have hd' := hd.set hi
   have hu := undone_set hd hi
   have hmono : ∀ j, (L.setIfInBounds i true).getD j false = true → j = i ∨ L.getD j false = true := by
    intro j hj
    by_cases hij : i = j
    ·exact .inl hij.symm
    ·right
     rw [Array.getD_eq_getD_getElem?, Array.getElem?_setIfInBounds_ne hij, ← Array.getD_eq_getD_getElem?] at hj; exact hj
   have hkeep : ∀ j, L.getD j false = true → (L.setIfInBounds i true).getD j false = true := by
    intro j hj
    by_cases hij : i = j
    ·subst hij; simp [hiL]
    ·rw [Array.getD_eq_getD_getElem?, Array.getElem?_setIfInBounds_ne hij, ← Array.getD_eq_getD_getElem?]; exact hj
   have hset : (L.setIfInBounds i true).getD i false = true := by simp [hiL]
   have h3' : ¬ (L.getD i false = true) := by
    rw [Array.getD_eq_getD_getElem?, Array.getElem?_eq_getElem hiL] at h3 ⊢; simp at h3 ⊢; exact h3
   rcases Nat.lt_or_ge i nA with hiA | hiA
   case inr =>
    have hea' : early (cls ops) l nA i = true := by
     refine Classical.byContradiction fun hne => ?_
     exact absurd (fun k hk hfk => wait_all hc hd hi ((hc.wait i hil hiA hne k (by omega)).resolve_right fun h9 => hfk h9.1)) hall
    cases hop : earlyOp (cls ops) l nA i with
    | false =>
     have hmv : earlyMov (cls ops) l nA i = true := by unfold early at hea'; rwa [hop, Bool.false_or] at hea'
     obtain ⟨d, t, _, hz, hdt, hwr, hn⟩ := earlyMov_spec hmv
     rw [hv1] at hz; cases hz
     have hod : o.dst = some d := hv4.symm
     have hdN : d < a.tmps.size := by rw [hA.size]; simpa using hd5
     have hg : o.guard = none := by
      cases hog : o.guard with
      | none => rfl
      | some jb => obtain ⟨j, b⟩ := jb; rw [hog] at hv3; simp only [trG] at hv3; split at hv3 <;> simp at hv3
     refine okq_step (all := ops) (x := .val (a.tmps.getD t undef)) (e := [(t, .val (a.tmps.getD t undef))]) hv2 hv3 hs ⟨fun s' => ?_, hs.glob⟩ ?_ ho ?_
     ·rw [get_cons]
      split
      ·rename_i e; subst e; exact Rep.of_val
      ·exact Rep.any
     ·show Qt P (.p (.mov (.t t))) _ H _
      intro KK hKK
      show KK (get [(t, .val (a.tmps.getD t undef))] t)
      rw [get_cons, if_pos rfl]; exact hKK
     ·intro β' F' w' u hs' hl' hx
      rw [Rep.val] at hx
      have hm := hl'.mono hs
      rw [hod]
      have hlt : ∀ j, j < nA → (L.setIfInBounds i true).getD j false = true → L.getD j false = true := fun j hj hh => (hmono j hh).resolve_left (by omega)
      refine ih hd' (by omega) (fun j hj hnj hh => (hmono j hh).elim (fun e => e ▸ hea') (hLA j hj hnj)) hs' (hl0.trans hl') ⟨fun j v x d' hj hLj hv' hx' hd'' => ?_, fun s hsn hse => ?_, ?_, ?_, by rw [put_size]; exact hA.size, by rw [put_defers]; exact hA.defers⟩ hk
      ·have hne : d ≠ d' := fun e9 => (hn j v hv' (by omega)).1 (by rw [hd'', e9])
       rw [put_other (by simpa using hne)]
       exact Rep.mono hm (hA.did j v x d' hj (hlt j hj hLj) hv' hx' hd'')
      ·have hne : d ≠ s := fun e9 => hse i _ hiA hea' hset hv1 (by rw [e9])
       rw [put_other (by simpa using hne)]
       exact Rep.mono hm (hA.not s (fun j v hj hLj hv' => hsn j v hj (hkeep j hLj) hv') (fun j v hj hej hLj hv' => hse j v hj hej (hkeep j hLj) hv'))
      ·refine hA.earl.step hl' (Nat.le_refl _) (fun k dk so hmk hek hz9 _ => ?_) (fun _ => by rw [hop]; simp)
       obtain ⟨_, _, _, _, hz', _, _, _, hn9⟩ := earlyOp_spec hek
       rw [hz9] at hz'; cases hz'
       exact (hn9 i _ hv1 (fun e => by subst e; rw [hv1] at hz9; cases hz9)).1
      ·intro j d' t' hj he hLj hz9
       by_cases hji : j = i
       ·subst hji
        rw [hv1] at hz9; cases hz9
        rw [put_same hdN, put_other (by simpa using hdt)]
        exact hx
       ·exact emov_keep1 hll hd hv1 rfl h3' hA.emov hj he hji hLj hz9
    | true =>
    have hea : earlyOp (cls ops) l nA i = true := hop
    obtain ⟨d, so, z, q, hz, hq, hfit, _, hn⟩ := earlyOp_spec hea
    rw [hv1] at hz; cases hz
    have hod : o.dst = some d := hv4.symm
    have hdN : d < a.tmps.size := by rw [hA.size]; simpa using hd5
    have hg : o.guard = none := by
     cases hog : o.guard with
     | none => rfl
     | some jb => obtain ⟨j, b⟩ := jb; rw [hog] at hv3; simp only [trG] at hv3; split at hv3 <;> simp at hv3
    unfold wpOpIn
    simp only [List.getElem?_toArray, ho]
    have : Region.wanted o (yielded ops.toArray a.tmps) = true := by simp [Region.wanted, hg]
    rw [if_pos this]
    refine mk_raw hv2 hq hfit (fun vs t' hr => ?_) ro nn
    rw [hod]
    obtain ⟨s1, s2⟩ := hs.extra (.cells vs.toArray t' (0, 0))
    have hm := s2.mono hs
    have hlt : ∀ j, j < nA → (L.setIfInBounds i true).getD j false = true → L.getD j false = true := fun j hj hh => (hmono j hh).resolve_left (by omega)
    refine ih hd' (by omega) (fun j hj hnj hh => (hmono j hh).elim (fun e => e ▸ hea') (hLA j hj hnj)) s1 (hl0.trans s2) ⟨fun j v x d' hj hLj hv' hx' hd'' => ?_, fun s hsn hse => ?_, hA.earl.more hs hl0.size hv1 hq hea hr hdN, emov_keep hll hd hv1 rfl h3' (Nat.le_refl _) (fun j hj he e => by subst e; obtain ⟨_, _, _, hz9, _⟩ := earlyMov_spec he; rw [hv1] at hz9; cases hz9) hA.emov, by rw [put_size]; exact hA.size, by rw [put_defers]; exact hA.defers⟩ hk
    ·have hne : d ≠ d' := fun e9 => (hn j v hv' (by omega)).1 (by rw [hd'', e9])
     rw [put_other (by simpa using hne)]
     exact Rep.mono hm (hA.did j v x d' hj (hlt j hj hLj) hv' hx' hd'')
    ·have hne : d ≠ s := fun e9 => hse i _ hiA hea' hset hv1 (by rw [e9])
     rw [put_other (by simpa using hne)]
     exact Rep.mono hm (hA.not s (fun j v hj hLj hv' => hsn j v hj (hkeep j hLj) hv') (fun j v hj hej hLj hv' => hse j v hj hej (hkeep j hLj) hv'))
   have hxi : xs[i]? = some (xs[i]'(by omega)) := by simp [show i < xs.length from by omega]
   generalize hxx : xs[i]'(by omega) = x at hxi
   have hvt : (l.take nA)[i]? = some v := by rw [List.getElem?_take, if_pos hiA]; exact hv1
   have hrde : ∀ s ∈ v.rd, ∀ k u, nA ≤ k → early (cls ops) l nA k = true → L.getD k false = true → l[k]? = some u → u.dst ≠ some s := by
    intro s hsr k u hnk hek _ hu hud
    obtain ⟨_, _, hz, _, hn⟩ := early_spec hek
    rw [hz] at hu; cases hu; cases hud
    have := bit_lt hc hil ((hn i v hv1 (by omega)).2 hsr); omega
   -- what it reads is there
   have hrd : ∀ s ∈ v.rd, ∀ j u, j < nA → l[j]? = some u → u.dst = some s → ((cls ops).getD i 0).testBit j = true ∨ ((cls ops).getD j 0).testBit i = true := fun s hs' j u hj hu hus => hc.read i j v u s hiA hj hv1 hu hus hs'
   have hokf : Okq P v (forget v.rd (putAll e0 ((l.take nA).take i) (xs.take i))) H x := by
    refine Okq_congr (fun s hs' => ?_) (hok i v x hvt hxi)
    rw [get_forget, if_pos hs']
   have henv : EnvOk ⟨β, H, F⟩ w (forget v.rd (putAll e0 ((l.take nA).take i) (xs.take i))) a := by
    refine ⟨fun s => ?_, hs.glob⟩
    rw [get_forget]
    split
    ·rename_i hs'
     by_cases hex : ∃ j u, j < nA ∧ l[j]? = some u ∧ u.dst = some s
     ·obtain ⟨j, u, hj, hu, hus⟩ := hex
      have honce : ∀ (j' : Nat) o', l[j']? = some o' → j' < nA → j' ≠ j → o'.dst ≠ some s := fun j' o' ho' hj' hne hd' => hne (hc.once j' j o' u s hj' hj ho' hu hus hd')
      rcases hrd s hs' j u hj hu hus with hb | hb
      ·have hji : j < i := bit_lt hc hil hb
       have hxj : xs[j]? = some (xs[j]'(by omega)) := by simp [show j < xs.length from by omega]
       have hu' : (l.take nA)[j]? = some u := by rw [List.getElem?_take, if_pos hj]; exact hu
       rw [get_putAll_some (l := (l.take nA).take i) (i := j) (by rw [List.getElem?_take, if_pos hji]; exact hu') (by rw [List.getElem?_take, if_pos hji]; exact hxj) hus fun j' o' ho' hne => by
        rw [List.getElem?_take] at ho'
        split at ho'
        ·rw [List.getElem?_take] at ho'
         split at ho'
         ·rename_i hj'; exact honce j' o' ho' hj' hne
         ·cases ho'
        ·cases ho']
       exact hA.did j u _ s hj (wait_all hc hd hi hb) hu hxj hus
      ·have hij : i < j := bit_lt hc (by omega) hb
       have hLj : L.getD j false ≠ true := by
        intro hLj
        have hjl : j < (cls ops).length := by rw [cls_length]; omega
        have hmj : (cls ops)[j]? = some ((cls ops).getD j 0) := by
         rw [List.getD_eq_getElem?_getD, List.getElem?_eq_getElem hjl]; rfl
        have hoj : ops[j]? = some (ops[j]'(by omega)) := List.getElem?_eq_getElem (by omega)
        have hLi := cls_ok hmj hoj hd.closed (hd.closed j _ hoj hLj) hb
        have hLi' : L.getD i false = true := hLi
        rw [Array.getD_eq_getD_getElem?, Array.getElem?_eq_getElem hiL] at h3 hLi'
        simp at h3 hLi'; rw [h3] at hLi'; cases hLi'
       rw [get_putAll_none fun j' o' ho' hd' => by
        rw [List.getElem?_take] at ho'
        split at ho'
        ·rename_i hj'i
         rw [List.getElem?_take] at ho'
         split at ho'
         ·rename_i hj'; exact honce j' o' ho' hj' (by omega) hd'
         ·cases ho'
        ·cases ho']
       exact hA.not s (fun i' v' hi' hL' hv' hd'' => by
        by_cases he : i' = j
        ·exact hLj (he ▸ hL')
        ·exact honce i' v' hv' hi' he hd'') (hrde s hs')
     ·rw [get_putAll_none fun j o' ho' hd' => hex ⟨j, o', by
       rw [List.getElem?_take] at ho'
       split at ho'
       ·rw [List.getElem?_take] at ho'
        split at ho'
        ·rename_i hj'; exact ⟨hj', ho', hd'⟩
        ·cases ho'
       ·cases ho'⟩]
      exact hA.not s (fun i' v' hi' _ hv' hd'' => hex ⟨i', v', hi', hv', hd''⟩) (hrde s hs')
    ·exact Rep.any
   refine okq_step (all := ops) hv2 hv3 hs henv hokf ho ?_
   intro β' F' w' u hs' hl hx
   have hm := hl.mono hs
   have hput : ∀ s, o.dst ≠ some s → (a.put o.dst u).tmps.getD s undef = a.tmps.getD s undef := by
    intro s hne
    cases hod : o.dst with
    | none => rfl
    | some d =>
     have : d ≠ s := fun e => hne (by rw [hod, e])
     show (a.tmps.setIfInBounds d u).getD s undef = _
     simp [Array.getElem?_setIfInBounds_ne this]
   refine ih hd' (by omega) (fun j hj hnj hLj => hLA j hj hnj ((hmono j hLj).resolve_left (by omega))) hs' (hl0.trans hl) ⟨fun j v' x' d hj hLj hv' hx' hd'' => ?_, fun s hsn hse => ?_, ?_, emov_keep hll hd hv1 hv4 h3' (Nat.le_refl _) (fun j hj he e => by omega) hA.emov, ?_, ?_⟩ hk
   ·by_cases hji : j = i
    ·subst hji
     rw [hv1] at hv'; cases hv'
     rw [hxi] at hx'; cases hx'
     have hod : o.dst = some d := by rw [← hv4]; exact hd''
     have hdN : d < a.tmps.size := by rw [hA.size]; rw [hod] at hv5; simpa using hv5
     have : (a.put o.dst u).tmps.getD d undef = u := by
      rw [hod]; show (a.tmps.setIfInBounds d u).getD d undef = u
      simp [hdN]
     rw [this]; exact hx
    ·have hne : o.dst ≠ some d := fun e => hji (hc.once j i v' v d hj hiA hv' hv1 (by rw [hv4]; exact e) hd'')
     rw [hput d hne]
     exact Rep.mono hm (hA.did j v' x' d hj ((hmono j hLj).resolve_left hji) hv' hx' hd'')
   ·have hne : o.dst ≠ some s := fun e => hsn i v hiA (by simp [hiL]) hv1 (by rw [hv4]; exact e)
    rw [hput s hne]
    exact Rep.mono hm (hA.not s (fun j v' hj hLj hv' => hsn j v' hj (hkeep j hLj) hv') (fun j v' hj hej hLj hv' => hse j v' hj hej (hkeep j hLj) hv'))
   ·refine hA.earl.step hl (Nat.le_refl _) (fun k dk so hmk hek hz _ => ?_) (fun h9 => by omega)
    obtain ⟨_, _, _, _, hz', _, _, _, hn⟩ := earlyOp_spec hek
    rw [hz] at hz'; cases hz'
    rw [← hv4]; exact (hn i v hv1 (by omega)).1
   ·cases hod : o.dst with
    | none => exact hA.size
    | some d => simp [Act.put, hA.size]
   ·cases hod : o.dst <;> exact hA.defers

def renum (f : Nat → Nat) (o : Oper) : Oper := { o with after := o.after.map (fun e => { e with on := f e.on }), guard := o.guard.map fun q => (f q.1, q.2) }
def permOps (ops : List Oper) (π : List Nat) : List Oper := π.map fun i => renum (fun j => π.idxOf j) (ops.getD i default)
def isPerm (π : List Nat) (n : Nat) : Bool := decide (π.length = n) && decide π.Nodup && π.all (· < n) && (List.range n).all (π.contains ·)
theorem preds_renum {f : Nat → Nat} {o : Oper} : preds (renum f o) = (preds o).map f := by
 unfold preds renum
 simp only [Array.toList_map, List.filter_map, List.map_map]
 congr 1
theorem idxOf_none {a : Nat} : ∀ {l : List Nat}, ¬ a ∈ l → l.idxOf a = l.length
 | [], _ => rfl
 | b :: l, h => by
  rw [List.mem_cons, not_or] at h
  rw [List.idxOf_cons, idxOf_none h.2]
  have : (b == a) = false := by simpa using fun e => h.1 e.symm
  rw [this]; rfl
theorem perm_any {π : List Nat} (hp : isPerm π ops.length = true) {F : Fence} {QQ : Exit → Act → World → Prop} : ∀ (fuel : Nat) {L L' : Array Bool} {a : Act} {w : World}, L.size = ops.length → L'.size = ops.length → (∀ i, i < ops.length → L'.getD (π.idxOf i) false = L.getD i false) →
  wpAnyIn F nn P .any (permOps ops π).toArray QQ fuel L' a w → wpAnyIn F nn P .any ops.toArray QQ fuel L a w := by
 unfold isPerm at hp
 simp only [Bool.and_eq_true, decide_eq_true_eq, List.all_eq_true, List.mem_range] at hp
 obtain ⟨⟨⟨h1, h2⟩, h3⟩, h4⟩ := hp
 have hmem : ∀ i, i < ops.length → i ∈ π := fun i hi => by have := h4 i hi; simpa using this
 have hpos : ∀ i, i < ops.length → π.idxOf i < ops.length := fun i hi => by rw [← h1]; exact List.idxOf_lt_length_of_mem (hmem i hi)
 have hat : ∀ i, i < ops.length → π[π.idxOf i]? = some i := fun i hi => by
  have hlt := List.idxOf_lt_length_of_mem (hmem i hi)
  rw [List.getElem?_eq_getElem hlt, List.getElem_idxOf hlt]
 have hback : ∀ q (hq : q < π.length), π.idxOf π[q] = q := fun q hq => h2.idxOf_getElem q hq
 have hops : ∀ i o, ops[i]? = some o → (permOps ops π)[π.idxOf i]? = some (renum (fun j => π.idxOf j) o) := fun i o ho => by
  have hi : i < ops.length := (List.getElem?_eq_some_iff.1 ho).1
  unfold permOps
  rw [List.getElem?_map, hat i hi]
  simp [List.getD_eq_getElem?_getD, ho]
 have hlen : (permOps ops π).length = ops.length := by unfold permOps; rw [List.length_map, h1]
 have hops2 : ∀ q o, (permOps ops π)[q]? = some o → ∃ i o', π.idxOf i = q ∧ ops[i]? = some o' ∧ o = renum (fun j => π.idxOf j) o' := fun q o ho => by
  have hq : q < π.length := by have := (List.getElem?_eq_some_iff.1 ho).1; rw [hlen] at this; omega
  have hi := h3 π[q] (List.getElem_mem hq)
  refine ⟨π[q], ops[π[q]], hback q hq, List.getElem?_eq_getElem hi, ?_⟩
  have := hops π[q] _ (List.getElem?_eq_getElem hi)
  rw [hback q hq, ho] at this
  exact Option.some.inj this
 have hD : ∀ {L : Array Bool} {i : Nat}, i < L.size → (L.getD i true = false ↔ L.getD i false = false) := fun {L i} hi => by
  rw [Array.getD_eq_getD_getElem?, Array.getD_eq_getD_getElem?, Array.getElem?_eq_getElem hi]; rfl
 have hlt : ∀ {L : Array Bool} {i : Nat}, L.size = ops.length → L.getD i false = true → i < ops.length := fun {L i} hs hi => by
  rcases Nat.lt_or_ge i L.size with h | h
  ·omega
  ·rw [Array.getD_eq_getD_getElem?, Array.getElem?_eq_none h] at hi; cases hi
 -- what is ready here is ready there
 have go : ∀ {L L' : Array Bool}, L.size = ops.length → L'.size = ops.length → (∀ i, i < ops.length → L'.getD (π.idxOf i) false = L.getD i false) → ∀ i, i ∈ Region.ready .any ops.toArray L → π.idxOf i ∈ Region.ready .any (permOps ops π).toArray L' := by
  intro L L' hL hL' hLL i hi
  obtain ⟨o, ho, g1, g2⟩ := mem_ready hi
  have hil : i < ops.length := (List.getElem?_eq_some_iff.1 ho).1
  refine ready_of (hops i o ho) ?_ ?_
  ·exact (hD (by rw [hL']; exact hpos i hil)).2 (by rw [hLL i hil]; exact (hD (by omega)).1 g1)
  ·intro q hq
   rw [preds_renum] at hq
   obtain ⟨j, hj, rfl⟩ := List.mem_map.1 hq
   have := g2 j hj
   rw [hLL j (hlt hL this)]; exact this
 have back : ∀ {L L' : Array Bool}, L.size = ops.length → L'.size = ops.length → (∀ i, i < ops.length → L'.getD (π.idxOf i) false = L.getD i false) → ∀ q, q ∈ Region.ready .any (permOps ops π).toArray L' → ∃ i, i ∈ Region.ready .any ops.toArray L := by
  intro L L' hL hL' hLL q hq
  obtain ⟨o, ho, g1, g2⟩ := mem_ready hq
  obtain ⟨i, o', rfl, ho', rfl⟩ := hops2 q o ho
  have hil : i < ops.length := (List.getElem?_eq_some_iff.1 ho').1
  refine ⟨i, ready_of ho' ?_ ?_⟩
  ·exact (hD (by omega)).2 (by rw [← hLL i hil]; exact (hD (by rw [hL']; exact hpos i hil)).1 g1)
  ·intro j hj
   have hj' : π.idxOf j ∈ preds (renum (fun j => π.idxOf j) o') := by rw [preds_renum]; exact List.mem_map_of_mem hj
   have h9 := g2 _ hj'
   have hjl : j < ops.length := by
    refine Classical.byContradiction fun hn => ?_
    have : π.idxOf j = π.length := idxOf_none (fun hm => hn (h3 j hm))
    have h10 := hlt hL' h9
    omega
   rw [← hLL j hjl]; exact h9
 have hy : ∀ {tmps : Array Value} {j : Nat}, yielded (permOps ops π).toArray tmps (π.idxOf j) = yielded ops.toArray tmps j := by
  intro tmps j
  unfold yielded
  by_cases hj : j < ops.length
  ·have := hops j _ (List.getElem?_eq_getElem hj)
   simp only [List.getElem?_toArray, this, List.getElem?_eq_getElem hj]
   rfl
  ·have h9 : π.idxOf j = π.length := idxOf_none (fun hm => hj (h3 j hm))
   simp only [List.getElem?_toArray]
   rw [List.getElem?_eq_none (l := permOps ops π) (by rw [hlen]; omega), List.getElem?_eq_none (l := ops) (by omega)]
 intro fuel
 induction fuel with
 | zero =>
  intro L L' a w hL hL' hLL h
  refine ⟨?_, h.2⟩
  rw [List.eq_nil_iff_forall_not_mem]
  intro i hi
  have := go hL hL' hLL i hi
  rw [h.1] at this; cases this
 | succ fuel ih =>
  intro L L' a w hL hL' hLL h
  refine ⟨fun h0 => h.1 ?_, fun i hi => ?_⟩
  ·rw [List.eq_nil_iff_forall_not_mem]
   intro q hq
   obtain ⟨i, hi⟩ := back hL hL' hLL q hq
   rw [h0] at hi; cases hi
  ·have h9 := h.2 _ (go hL hL' hLL i hi)
   obtain ⟨o, ho, _, _⟩ := mem_ready hi
   have hil : i < ops.length := (List.getElem?_eq_some_iff.1 ho).1
   have hset : ∀ j, j < ops.length → (L'.setIfInBounds (π.idxOf i) true).getD (π.idxOf j) false = (L.setIfInBounds i true).getD j false := by
    intro j hj
    by_cases e : i = j
    ·subst e
     have e1 := hpos i hil
     simp [hL, hL', hil, e1]
    ·have e2 : π.idxOf i ≠ π.idxOf j := fun e3 => e (by
      have a1 := hat i hil
      have a2 := hat j hj
      rw [e3, a2] at a1; exact (Option.some.inj a1).symm)
     rw [Array.getD_eq_getD_getElem?, Array.getElem?_setIfInBounds_ne e2, ← Array.getD_eq_getD_getElem?, Array.getD_eq_getD_getElem? (xs := L.setIfInBounds i true), Array.getElem?_setIfInBounds_ne e, ← Array.getD_eq_getD_getElem?]
     exact hLL j hj
   have h10 : wpOpIn F nn P (permOps ops π).toArray QQ (π.idxOf i) (wpAnyIn F nn P .any ops.toArray QQ fuel (L.setIfInBounds i true)) a w :=
    wpOpIn_mono (fun a w h => ih (by simpa using hL) (by simpa using hL') hset h) h9
   unfold wpOpIn at h10 ⊢
   simp only [List.getElem?_toArray, hops i o ho, ho] at h10 ⊢
   have hw : Region.wanted (renum (fun j => π.idxOf j) o) (yielded (permOps ops π).toArray a.tmps) = Region.wanted o (yielded ops.toArray a.tmps) := by
    unfold Region.wanted renum
    cases hg : o.guard with
    | none => rfl
    | some q => simp only [Option.map_some, hy]
   rw [hw] at h10
   exact h10

theorem draw_any {W : VOp → Env → List Ob → (TV → List Ob → Prop) → Prop} {KP : Value → List Ob → Prop} (hW : WOk P W KP Ss) {all : List Oper} (htr : trL P N all all = some l) (hc : chkDraw Ss all l nA = true) {K : Env → List Ob → Prop} {e : Env} {H : List Ob} {β : Nat → Nat → Option (Nat × Nat)} {F : Nat → Prop} {w : World} {a : Act} {QQ : Exit → Act → World → Prop}
  (h : vq P (l.take nA) (fun e => wops W (l.drop nA) K e H) e H) (hs : Sim ⟨β, H, F⟩ w) (hf : Fr N D ⟨β, H, F⟩ w e a)
  (hk : Conts N D ⟨β, H, F⟩ w QQ K KP) : wpAnyIn (fz ro) nn P .any all.toArray QQ all.length (Array.replicate all.length false) a { w with drawn := w.drawn + 1 } := by
 have hck := Chk.of hc
 obtain ⟨xs, h1, h2, h3⟩ := vq_run h
 have hll := (trL_get htr).1
 have hle := hck.le
 have hxl : xs.length = nA := by
  rw [h1, List.length_take]
  have : l.length = all.length := hll
  have : nA ≤ all.length := hle
  omega
 have h0 : ∀ i, (Array.replicate all.length false).getD i false = false := by
  intro i; simp [Array.getD_eq_getD_getElem?, Array.getElem?_replicate]; split <;> rfl
 have hs0 : Sim ⟨β, H, F⟩ { w with drawn := w.drawn + 1 } := hs.heap rfl
 have hl0 : Later ⟨β, H, F⟩ w ⟨β, H, F⟩ { w with drawn := w.drawn + 1 } := Later.heap rfl rfl rfl rfl
 refine draw_first hW (ops := all) hck htr hxl h3 h2 all.length ⟨by simp, fun i o ho hi => by
  have hi' : (Array.replicate all.length false).getD i false = true := hi
  rw [h0] at hi'; cases hi'⟩ ?_ (fun i hi _ hL => by
  have hL' : (Array.replicate all.length false).getD i false = true := hL
  rw [h0] at hL'; cases hL') hs0 hl0 ⟨fun i v x d hi hL => (by
  have hL' : (Array.replicate all.length false).getD i false = true := hL
  rw [h0] at hL'; cases hL'), fun s _ _ => Rep.mono (hl0.mono hs) (hf.env.1 s), Earl.empty fun i _ _ hL => (by
  have hL' : (Array.replicate all.length false).getD i false = true := hL
  rw [h0] at hL'; cases hL'), (fun j d t _ _ hL => by
  have hL' : (Array.replicate all.length false).getD j false = true := hL
  rw [h0] at hL'; cases hL'), hf.size, hf.defers⟩ hk
 unfold undone
 exact Nat.le_trans (List.length_filter_le _ _) (by simp)
theorem draw_sound {W : VOp → Env → List Ob → (TV → List Ob → Prop) → Prop} {KP : Value → List Ob → Prop} (hW : WOk P W KP Ss) {id : Nat} {all : Array Oper} (hm : P.follows .mixedOrders = true) (htr : trL P N all.toList all.toList = some l) (hc : chkDraw Ss all.toList l nA = true) {K : Env → List Ob → Prop} {e : Env} {H : List Ob} {β : Nat → Nat → Option (Nat × Nat)} {F : Nat → Prop} {w : World} {a : Act} {QQ : Exit → Act → World → Prop}
  (h : vq P (l.take nA) (fun e => wops W (l.drop nA) K e H) e H) (hs : Sim ⟨β, H, F⟩ w) (hf : Fr N D ⟨β, H, F⟩ w e a)
  (hk : Conts N D ⟨β, H, F⟩ w QQ K KP) : (Code.region id all true).wpIn (fz ro) nn P QQ a w := by
 obtain ⟨all⟩ := all
 exact wpIn_region_any hm (draw_any hW htr hc h hs hf hk)
/-- What looks at something and waits for nothing that changes something: first. -/
def isBstr (v : VO) : Bool := match v.op with
 | .s (.bstr _ _) => true
 | _ => false
def isP (v : VO) : Bool := match v.op with
 | .p _ => true
 | _ => false
def firstOf : List Oper → List VO → Nat → List Nat → List Nat
 | o :: ops, v :: l, i, acc => firstOf ops l (i + 1) (if isP v && (preds o).all acc.contains then acc ++ [i] else acc)
 | _, _, _, acc => acc
def piOf (ops : List Oper) (l : List VO) : List Nat :=
 let a := firstOf ops l 0 []
 a ++ (List.range ops.length).filter fun i => !a.contains i
theorem draw_soundP {W : VOp → Env → List Ob → (TV → List Ob → Prop) → Prop} {KP : Value → List Ob → Prop} (hW : WOk P W KP Ss) {id : Nat} {all : Array Oper} {π : List Nat} (hm : P.follows .mixedOrders = true) (hp : isPerm π all.toList.length = true) (htr : trL P N (permOps all.toList π) (permOps all.toList π) = some l) (hc : chkDraw Ss (permOps all.toList π) l nA = true) {K : Env → List Ob → Prop} {e : Env} {H : List Ob} {β : Nat → Nat → Option (Nat × Nat)} {F : Nat → Prop} {w : World} {a : Act} {QQ : Exit → Act → World → Prop}
  (h : vq P (l.take nA) (fun e => wops W (l.drop nA) K e H) e H) (hs : Sim ⟨β, H, F⟩ w) (hf : Fr N D ⟨β, H, F⟩ w e a)
  (hk : Conts N D ⟨β, H, F⟩ w QQ K KP) : (Code.region id all true).wpIn (fz ro) nn P QQ a w := by
 obtain ⟨all⟩ := all
 have hlen : (permOps all π).length = all.length := by
  unfold isPerm at hp
  simp only [Bool.and_eq_true, decide_eq_true_eq] at hp
  unfold permOps; rw [List.length_map]; exact hp.1.1.1
 refine wpIn_region_any hm ?_
 refine perm_any (ops := all) hp all.length (by simp) (by simp) (fun i hi => ?_) (L' := Array.replicate all.length false) ?_
 ·have h0 : ∀ i, (Array.replicate all.length false).getD i false = false := by
   intro i; simp [Array.getD_eq_getD_getElem?, Array.getElem?_replicate]; split <;> rfl
  rw [h0]; exact (h0 i).symm
 ·have   := draw_any hW (ro := ro) (nn := nn) htr hc h hs hf hk
  have hl2 : (permOps ({ toList := all } : Array Oper).toList π).length = all.length := hlen
  rw [hl2] at this
  exact this
end sound
end Go.Proofs.YtfgljddikcghhaaDoor

