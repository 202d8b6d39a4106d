/- The operations of the machine of values that make or write objects, and calls. No program in sight. -/
import Derived.Test.YtknphdcjopaaoaaVmG
import Derived.RangeFuncCalls
import Derived.RangeFuncSeq
import Derived.TacticsIn
namespace Go.Proofs.Ytknphdcjopaaoaa
open Go.RowKit
set_option linter.unusedVariables false
set_option autoImplicit false

/-- WHAT A CALL DOES, in the words of the machine of values. -/
def VCalls (P : Program) (f : FuncId) (args : List TV) (H : List Ob) (R : TV → List Ob → Prop) : Prop :=
  ∀ (β : Nat → Nat → Option (Nat × Nat)) (F : Nat → Prop) (w : World) (vs : List Value), Sim ⟨β, H, F⟩ w → RepL ⟨β, H, F⟩ w args vs →
    Calls P f vs.toArray w fun e w' => ∃ v x β' H' F', e = .returned v ∧ R x H' ∧ Sim ⟨β', H', F'⟩ w' ∧ Later ⟨β, H, F⟩ w ⟨β', H', F'⟩ w' ∧ Rep ⟨β', H', F'⟩ w' x v

theorem VCalls.mono {P : Program} {f : FuncId} {args : List TV} {H : List Ob} {R R' : TV → List Ob → Prop} (h : VCalls P f args H R) (hr : ∀ x H', R x H' → R' x H') : VCalls P f args H R' :=
  fun β F w vs hs hv => (h β F w vs hs hv).mono fun _ _ ⟨v, x, β', H', F', h1, h2, h3⟩ => ⟨v, x, β', H', F', h1, hr _ _ h2, h3⟩

/-- The fence of all, in a round or in none. -/
def fz (ro : Option Nat) : Fence := { Fence.wide with round := ro }
theorem fz_none : fz none = Fence.wide := rfl
/-- Whether in a round or in none: the operation goes so. -/
def OW (P : Program) (o : Oper) (a : Act) (w : World) (KK : Act → World → Prop) (Q : Exit → Act → World → Prop) : Prop := ∀ (ro : Option Nat) (n : Nat), o.wpIn (fz ro) n P a w KK Q
theorem rowsIn_of {ro : Option Nat} {n : Nat} {P : Program} {row : String} {args : Array Value} {w : World} {R : Value → World → Prop} (h : Rows P row args w R) : RowsIn (fz ro) n P row args w R := by
  intro c cs _
  obtain ⟨v, w', r, s⟩ := h c cs
  exact ⟨v, w', r, (stepsIn_wide.2 s : StepsIn (Machine.fenced P Fence.wide) P _ _)⟩
theorem OW.of_wp {P : Program} {o : Oper} {a : Act} {w : World} {KK : Act → World → Prop} {Q : Exit → Act → World → Prop} (hd : ∀ c, o.op ≠ .defer c) (h : o.wp P a w KK Q) : OW P o a w KK Q := by
  intro ro n
  refine ⟨fun _ _ => trivial, ?_⟩
  rw [show (fz ro).round = ro from rfl, Oper.semAt_eq ro a.eval o hd]
  unfold Oper.wp at h
  generalize (execOp a.eval o).run P w = r at *
  cases r with
  | ok x w' =>
    cases x with
    | value v => exact h
    | skip => exact h
    | defer d => exact h
    | enter f args => exact ⟨fun h => by simp [fz, Fence.wide] at h, ((callsIn_wide (n := n - 1)).2 h : CallsIn Fence.wide (n - 1) P f args w' _)⟩
    | row r args => exact ⟨fun h => by simp [fz, Fence.wide] at h, rowsIn_of h⟩
    | _ => exact h.elim
  | halt x w' => cases x <;> first | exact h | exact h.elim

/-- WHAT A ROUND OF A LOOP DOES, called by the function that the loop goes over. -/
def VYield (P : Program) (id ver : Nat) (args : List TV) (H : List Ob) (R : TV → List Ob → Prop) : Prop :=
  ∀ (β : Nat → Nat → Option (Nat × Nat)) (F : Nat → Prop) (w : World) (vs : List Value) (b o : Nat), Sim ⟨β, H, F⟩ w → RepL ⟨β, H, F⟩ w args vs → β id ver = some (b, o) →
    ∀ n, YieldAt (fz none) n P b vs.toArray w fun e w' => ∃ v x β' H' F', e = .returned v ∧ R x H' ∧ Sim ⟨β', H', F'⟩ w' ∧ Later ⟨β, H, F⟩ w ⟨β', H', F'⟩ w' ∧ Rep ⟨β', H', F'⟩ w' x v
theorem VYield.mono {P : Program} {id ver : Nat} {args : List TV} {H : List Ob} {R R' : TV → List Ob → Prop} (h : VYield P id ver args H R) (hr : ∀ x H', R x H' → R' x H') : VYield P id ver args H R' :=
  fun β F w vs b o hs hv hb n => by
    obtain ⟨fn, tmps, as, bd, h1, h2⟩ := h β F w vs b o hs hv hb n
    exact ⟨fn, tmps, as, bd, h1, h2.mono fun _ _ ⟨v, x, β', H', F', h1, h2, h3⟩ => ⟨v, x, β', H', F', h1, hr _ _ h2, h3⟩⟩

/-- A function of the program's own text. -/
def isGo (P : Program) (f : FuncId) : Bool := match P.funcs[f]? with
  | some fn => fn.body.isSome && !(fn.name == "runtime.NumGoroutine")
  | none => false

/-- The operations that make or write objects. -/
inductive SOp where
  | alloc (z : TV)
  | box (x : Opd)
  | bslice (k n : Nat) (z : TV) (ps : List (Nat × Opd))
  | store (sz : Nat) (x v : Opd)
  | mks (k bytes : Nat) (z : TV) (l c : Opd)
  | app (k bytes : Nat) (et : TypeId) (x y : Opd)
  | appS (et : TypeId) (x y : Opd)
  | s2b (x : Opd)
  | copy (k : Nat) (x y : Opd)
  | copyS (x y : Opd)
  | call (f : FuncId) (args : List Opd)
  | callv (x : Opd) (args : List Opd)
  /-- maps: made; a value for a key; the entry of a key, made if it is not there; a value for an entry -/
  | mkm (kk : MK) (h : Option Opd)
  | mupd (kk : MK) (m k x : Opd)
  | ment (kk : MK) (z : TV) (m k : Opd)
  | mest (m st x : Opd)
  /-- a new object; what type its block has is kept in mind -/
  | allocT (z : TV) (t : TypeId)
  | boxT (x : Opd) (t : TypeId)
  /-- strings.Builder's String -/
  | bstr (f : FuncId) (x : Opd)
  deriving Inhabited

/-- What strings.Builder's String does: the row of bytes is given away. -/
def BStr (P : Program) (f : FuncId) : Prop := ∀ (id ver j v cp : Nat) (p : List (Nat × Nat)) (x a : TV) (l : List UInt8) (H : List Ob) (K : TV → List Ob → Prop), H[id]? = some (.obj ver x) → getP p x = some (.agg [a, .os 1 j v [] 0 l.length cp]) → width a = 1 →
  H[j]? = some (.bld v byteTy l) → l.length ≤ 9223372036854775807 → K (.val (.string (str l))) (H.set j (.gone v)) → VCalls P f [.op id ver p] H K
/-- A builder's row: where it lies, what it holds. -/
def rowOf (H : List Ob) (x : TV) : Option (Nat × Nat × List UInt8) := match x with
  | .op id ver p => (match H[id]? with
    | some (.obj v y) => if v = ver then (match getP p y with
      | some (.agg [a, .os 1 j v2 [] 0 n cp]) => (match H[j]? with
        | some (.bld v3 t l) => if v3 = v2 ∧ t = byteTy ∧ n = l.length ∧ width a = 1 then some (j, v2, l) else none
        | _ => none)
      | _ => none) else none
    | _ => none)
  | _ => none
/-- What becomes of an object behind whose n elements from off on some are appended; how many it has. -/
def appO (o : Option Ob) (ver k : Nat) (et : TypeId) (off n : Nat) (ys : List TV) : Option Ob := match o with
  | some (.obj v (.arr _ k'' cs)) => if v = ver ∧ k'' = k then some (.obj (ver + 1) (.arr (n + ys.length) k ((cs.drop off).take n ++ ys))) else none
  | some (.bld v t l) => if v = ver ∧ k = 1 ∧ t = et ∧ off = 0 ∧ ys.all isByB = true then some (.bld (ver + 1) t (l.take n ++ ys.map unby)) else none
  | _ => none
def lenO : Option Ob → Nat
  | some (.obj _ (.arr _ _ cs)) => cs.length
  | some (.bld _ _ l) => l.length
  | _ => 0
/-- Appended to a row. -/
def appTo (k bytes : Nat) (et : TypeId) (x : TV) (ys : List TV) (H : List Ob) (K : TV → List Ob → Prop) : Prop := match x with
  | .val (.slice none 0 0) => (ys.length * bytes ≤ 140737488355328 ∧ ys.length ≤ 9223372036854775807) ∧ K (.os k H.length 1 [] 0 ys.length ys.length) (H ++ [.obj 1 (.arr ys.length k ys)])
  | .os k' id ver [] off n cp => k' = k ∧ (match appO H[id]? ver k et off n ys with
    | some o => (off + n ≤ lenO H[id]? ∧ (n + ys.length) * bytes ≤ 140737488355328 ∧ n + ys.length ≤ 9223372036854775807) ∧ K (.os k id (ver + 1) [] 0 (n + ys.length) (n + ys.length)) (H.set id o)
    | none => False)
  | _ => False

/-- Copied over a part of an array. -/
def copyTo (k : Nat) (x : TV) (ys : List TV) (H : List Ob) (K : TV → List Ob → Prop) : Prop := match x with
  | .os k' id ver p off n cp => k' = k ∧ (match H[id]? with
    | some (.obj v z) => v = ver ∧ (match getP p z with
      | some (.arr N k'' cs) => k'' = k ∧ off + n ≤ cs.length ∧ (match setP p z (.arr N k (cs.take off ++ (ys.take n ++ cs.drop (off + min ys.length n)))) with
        | some z' => K (.val (.int .i64 (min ys.length n : Nat))) (H.set id (.obj ver z'))
        | none => False)
      | _ => False)
    | _ => False)
  | _ => False

def sop (P : Program) (o : SOp) (e : Env) (H : List Ob) (K : TV → List Ob → Prop) : Prop := match o with
  | .alloc z => K (.op H.length 0 []) (H ++ [.obj 0 z])
  | .box x => lays (x.ev e) = true ∧ K (.op H.length 0 []) (H ++ [.obj 0 (x.ev e)])
  | .bslice k n z ps => (fillsOk e (List.replicate n k) ps ∧ fillsPure e ps ∧ n ≤ 1000) ∧ K (.os k H.length 0 [] 0 n n) (H ++ [.obj 0 (.arr n k (fills e (List.replicate n z) ps))])
  | .store sz x v => (lays (v.ev e) = true ∧ width (v.ev e) = sz) ∧ (match x.ev e with
    | .op id ver p => (match H[id]? with
      | some (.obj vr y) => vr = ver ∧ (match setP p y (v.ev e) with | some y' => K .any (H.set id (.obj ver y')) | none => False)
      | _ => False)
    | _ => False)
  | .mks k bytes z l c => match l.ev e, c.ev e with
    | .val (.int _ l), .val (.int _ c) => (0 ≤ l ∧ l ≤ c ∧ (bytes : Int) * c ≤ 281474976710656 ∧ c ≤ 9223372036854775807) ∧ K (.os k H.length 0 [] 0 l.toNat c.toNat) (H ++ [.obj 0 (.arr c.toNat k (List.replicate c.toNat z))])
    | _, _ => False
  | .app k bytes et x y => match elemsOf H k (y.ev e) with
    | some ys => appTo k bytes et (x.ev e) ys H K
    | none => False
  | .appS et x y => match y.ev e with
    | .val (.string s) => appTo 1 1 et (x.ev e) ((bl s).map by8) H K
    | _ => False
  | .copy k x y => match elemsOf H k (y.ev e) with
    | some ys => copyTo k (x.ev e) ys H K
    | none => False
  | .copyS x y => match y.ev e with
    | .val (.string s) => copyTo 1 (x.ev e) ((bl s).map by8) H K
    | _ => False
  | .s2b x => match x.ev e with
    | .val (.string s) => (bl s).length ≤ 9223372036854775807 ∧ K (.os 1 H.length 0 [] 0 (bl s).length (bl s).length) (H ++ [.obj 0 (.arr (bl s).length 1 ((bl s).map by8))])
    | _ => False
  | .call f args => (∀ x ∈ args, isTup (x.ev e) = false) ∧ VCalls P f (args.map (·.ev e)) H K
  | .callv x args => (∀ x ∈ args, isTup (x.ev e) = false) ∧ (match x.ev e with
    | .fn (.func f) first caps => isGo P f = true ∧ VCalls P f (first ++ args.map (·.ev e) ++ caps) H K
    | .val (.func (.func f) xs ys) => (xs.isEmpty && ys.isEmpty) = true ∧ isGo P f = true ∧ VCalls P f (args.map (·.ev e)) H K
    | .yl id ver => VYield P id ver (args.map (·.ev e)) H K
    | _ => False)
  | .mkm kk h => (match h with
    | none => True
    | some x => (match x.ev e with | .val (.int _ _) => True | _ => False)) ∧ K (.mp H.length 0) (H ++ [.mpo kk []])
  | .mupd kk m k x => match m.ev e, kBytes kk (k.ev e) with
    | .mp id 0, some kb => (match H[id]? with
      | some (.mpo kk' es) => (kk' = kk ∧ lays (x.ev e) = true) ∧ K .any (H.set id (.mpo kk (mput kb (x.ev e) es)))
      | _ => False)
    | _, _ => False
  | .ment kk z m k => match m.ev e, kBytes kk (k.ev e) with
    | .mp id 0, some kb => (match H[id]? with
      | some (.mpo kk' es) => kk' = kk ∧ K (.tup [(mget kb es).getD z, .val (.int .i64 (mpos kb es))]) (H.set id (.mpo kk (mput kb ((mget kb es).getD z) es)))
      | _ => False)
    | _, _ => False
  | .mest m st x => match m.ev e, st.ev e with
    | .mp id 0, .val (.int _ j) => (match H[id]? with
      | some (.mpo kk es) => (0 ≤ j ∧ lays (x.ev e) = true) ∧ (match es[j.toNat]? with
        | some (k, _) => K .any (H.set id (.mpo kk (es.set j.toNat (k, x.ev e))))
        | none => False)
      | _ => False)
    | _, _ => False
  | .allocT z t => K (.op H.length 0 []) (H ++ [.obj 0 z, .fact H.length 0 t (width z)])
  | .bstr f x => BStr P f ∧ (match rowOf H (x.ev e) with
    | some (j, v, l) => l.length ≤ 9223372036854775807 ∧ K (.val (.string (str l))) (H.set j (.gone v))
    | none => False)
  | .boxT x t => lays (x.ev e) = true ∧ K (.op H.length 0 []) (H ++ [.obj 0 (x.ev e), .fact H.length 0 t (width (x.ev e))])

def trS (P : Program) : Op → Option SOp
  | .alloc t => match P.info? t with
    | some i => (match i.zero with | some z => (zT P 400 t z.cells.toList).map fun z => if factTys.contains t then .allocT z t else .alloc z | none => none)
    | none => none
  | .box t x => some (if factTys.contains t then .boxT (trO x) t else .box (trO x))
  | .buildSlice t n ps => match sliceOf P t with
    | some (k, et) => (match P.info? et with
      | some i => (match i.zero with
        | some z => if z.cells.size = k ∧ k ≠ 0 ∧ n * k ≤ 16777216 then (zT P 400 et z.cells.toList).map fun z => .bslice k n z (ps.toList.map fun q => (q.1, trO q.2)) else none
        | none => none)
      | none => none)
    | none => none
  | .store t x v => (szOf P t).map fun sz => .store sz (trO x) (trO v)
  | .makeSlice t l c => match sliceOf P t with
    | some (k, et) => (match P.info? et with
      | some i => (match i.zero with
        | some z => if z.cells.size = k ∧ k ≠ 0 then (zT P 400 et z.cells.toList).map fun z => .mks k i.bytes z (trO l) (trO c) else none
        | none => none)
      | none => none)
    | none => none
  | .convert src dst x => if isStr P src && isU8s P dst then some (.s2b (trO x)) else none
  | .makeMap t r => match P.underlying t with
    | some (.map kt _) => (keyK P kt).map fun kk => .mkm kk (r.map trO)
    | _ => none
  | .mapUpdate t m k x => match P.underlying t with
    | some (.map kt _) => (keyK P kt).map fun kk => .mupd kk (trO m) (trO k) (trO x)
    | _ => none
  | .mapEntry t m k => match mapOf P t with
    | some (_, kk, _, zx) => some (.ment kk zx (trO m) (trO k))
    | none => none
  | .entryStore t m st x => some (.mest (trO m) (trO st) (trO x))
  | .call c => match c.callee, c.args.toList, c.argTypes.toList with
    | .builtin .append, [x, y], [t, ty] => (match sliceOf P t with
      | some (k, et) => (match P.info? et with
        | some i => (match i.zero with
          | some z => if z.cells.size = k then (if isStr P ty then (if k = 1 ∧ i.bytes = 1 then some (.appS et (trO x) (trO y)) else none) else if (sliceOf P ty).isSome then some (.app k i.bytes et (trO x) (trO y)) else none) else none
          | none => none)
        | none => none)
      | none => none)
    | .builtin .copy, [x, y], [t, ty] => (match sliceOf P t with
      | some (k, _) => if isStr P ty then (if k = 1 then some (.copyS (trO x) (trO y)) else none) else if (sliceOf P ty).isSome then some (.copy k (trO x) (trO y)) else none
      | none => none)
    | .value (.func f), args, _ => if isGo P f then (match args with
      | [x] => if strFns.contains f then some (.bstr f (trO x)) else some (.call f [trO x])
      | args => some (.call f (args.map trO))) else none
    | .value (.tmp t), args, _ => some (.callv (.t t) (args.map trO))
    | _, _, _ => none
  | _ => none

section sound
variable {P : Program} {β : Nat → Nat → Option (Nat × Nat)} {H : List Ob} {F : Nat → Prop} {w : World} {a : Act} {e : Env} {K : TV → List Ob → Prop}

/-- The operation does what K asks. -/
def Does (P : Program) (β : Nat → Nat → Option (Nat × Nat)) (H : List Ob) (F : Nat → Prop) (w : World) (a : Act) (K : TV → List Ob → Prop) (op : Op) : Prop :=
  ∀ (o : Oper) (KK : Act → World → Prop) (Q : Exit → Act → World → Prop), o.op = op → (∀ c, op ≠ .defer c) →
    (∀ x H' β' F' w' v, K x H' → Sim ⟨β', H', F'⟩ w' → Later ⟨β, H, F⟩ w ⟨β', H', F'⟩ w' → Rep ⟨β', H', F'⟩ w' x v → KK (a.put o.dst v) w') → OW P o a w KK Q

theorem Yields.does (hs : Sim ⟨β, H, F⟩ w) {op : Op} (h : ∀ ty, Yields P ⟨β, H, F⟩ w a (fun x => K x H) op ty) : Does P β H F w a K op := by
  intro o KK Q ho hnd hk
  refine OW.of_wp (by rw [ho]; exact hnd) ?_
  obtain ⟨x, v, hr, hx, hK⟩ := h o.type o ho rfl
  unfold Oper.wp
  rw [hr]
  exact hk x H β F w v hK hs (Later.refl _ _) hx

theorem Does.mk {op : Op} {s : Oper → Sem Value} {x : TV} {H' : List Ob} {β' : Nat → Nat → Option (Nat × Nat)} {F' : Nat → Prop} {w' : World} {v : Value} (he : ∀ o : Oper, o.op = op → execOp a.eval o = (do pure (.value (← s o)))) (hr : ∀ o, (s o).run P w = .ok v w')
    (hs : Sim ⟨β', H', F'⟩ w') (hl : Later ⟨β, H, F⟩ w ⟨β', H', F'⟩ w') (hx : Rep ⟨β', H', F'⟩ w' x v) (hk : K x H') : Does P β H F w a K op := by
  intro o KK Q ho hnd hkk
  refine OW.of_wp (by rw [ho]; exact hnd) ?_
  unfold Oper.wp
  rw [he o ho, Sem.run_bind, hr o]
  exact hkk x H' β' F' w' v hk hs hl hx

theorem bare0 (n : Nat) : Bare n (0, 0) := fun o _ h => by simp at h
theorem has_new (β' : Nat → Nat → Option (Nat × Nat)) (H : List Ob) (o : Ob) (F : Nat → Prop) (v : Nat) (hv : v ≤ o.ver) : Ctx.has ⟨β', H ++ [o], F⟩ H.length v := ⟨o, by simp, hv⟩

theorem d_alloc (hs : Sim ⟨β, H, F⟩ w) {t : TypeId} {i : TypeInfo} {z : Value} {x : TV} (h1 : P.info? t = some i) (h2 : i.zero = some z) (h3 : zT P 400 t z.cells.toList = some x) (h : sop P (.alloc x) e H K) : Does P β H F w a K (.alloc t) := by
  obtain ⟨hz, _⟩ := zT_spec (c := ⟨β, H, F⟩) (w := w) h3
  obtain ⟨k1, k2⟩ := hs.newObj (post := []) hz t (0, 0) (bare0 _)
  refine Does.mk (s := fun _ => Instr.alloc t true (.tuple #[])) (v := .pointer (some ⟨w.heap.size, 0, none⟩)) (fun o ho => by simp only [execOp, ho]) (fun o => ?_) k1 k2 (Rep.mk_op (has_new _ _ _ _ _ (Nat.le_refl _)) upd_same rfl) h
  simp [Instr.alloc, zeroValue, typeInfo, h1, h2, newVar, newRow, newObj, Sem.run]

/-- A new block's type is kept in mind. -/
theorem Sim.newObjT (hs : Sim ⟨β, H, F⟩ w) {x : TV} {vs : List Value} (hr : RepC ⟨β, H, F⟩ w x vs) (t : TypeId) : ∃ β', Sim ⟨β', H ++ [.obj 0 x, .fact H.length 0 t (width x)], F⟩ (w.alloc (.cells (vs ++ []).toArray t (0, 0))) ∧
    Later ⟨β, H, F⟩ w ⟨β', H ++ [.obj 0 x, .fact H.length 0 t (width x)], F⟩ (w.alloc (.cells (vs ++ []).toArray t (0, 0))) ∧ β' H.length 0 = some (w.heap.size, 0) := by
  obtain ⟨k1, k2⟩ := hs.newObj (post := []) hr t (0, 0) (bare0 _)
  have hnew := getElem?_alloc_new w (.cells (vs ++ []).toArray t (0, 0))
  obtain ⟨q1, q2⟩ := k1.addFact (i := H.length) (v := 0) (t := t) (m := width x) (has_new _ _ _ _ _ (Nat.le_refl _)) (fun b o e => by
    rw [upd_same] at e; cases e
    exact ⟨rfl, by unfold World.shape?; rw [hnew, ← hr.length]; simp⟩)
  rw [List.append_assoc] at q1 q2
  exact ⟨_, q1, k2.trans q2, by rw [upd_other (by simp)]; exact upd_same⟩
theorem has_new2 (β' : Nat → Nat → Option (Nat × Nat)) (H : List Ob) (o o' : Ob) (F : Nat → Prop) (v : Nat) (hv : v ≤ o.ver) : Ctx.has ⟨β', H ++ [o, o'], F⟩ H.length v := ⟨o, by simp, hv⟩
theorem d_allocT (hs : Sim ⟨β, H, F⟩ w) {t : TypeId} {i : TypeInfo} {z : Value} {x : TV} (h1 : P.info? t = some i) (h2 : i.zero = some z) (h3 : zT P 400 t z.cells.toList = some x) (h : sop P (.allocT x t) e H K) : Does P β H F w a K (.alloc t) := by
  obtain ⟨hz, _⟩ := zT_spec (c := ⟨β, H, F⟩) (w := w) h3
  obtain ⟨β', k1, k2, k3⟩ := hs.newObjT hz t
  refine Does.mk (s := fun _ => Instr.alloc t true (.tuple #[])) (v := .pointer (some ⟨w.heap.size, 0, none⟩)) (fun o ho => by simp only [execOp, ho]) (fun o => ?_) k1 k2 (Rep.mk_op (has_new2 _ _ _ _ _ _ (Nat.le_refl _)) k3 rfl) h
  simp [Instr.alloc, zeroValue, typeInfo, h1, h2, newVar, newRow, newObj, Sem.run]
theorem d_boxT (hs : Sim ⟨β, H, F⟩ w) (he : EnvOk ⟨β, H, F⟩ w e a) {t : TypeId} {x : Operand} (h : sop P (.boxT (trO x) t) e H K) : Does P β H F w a K (.box t x) := by
  simp only [sop] at h
  obtain ⟨hl, h⟩ := h
  obtain ⟨β', k1, k2, k3⟩ := hs.newObjT ((he.ev x).cells hl) t
  refine Does.mk (s := fun _ => Instr.box t (a.eval x)) (v := .pointer (some ⟨w.heap.size, 0, none⟩)) (fun o ho => by simp only [execOp, ho]) (fun o => ?_) k1 k2 (Rep.mk_op (has_new2 _ _ _ _ _ _ (Nat.le_refl _)) k3 rfl) h
  simp [Instr.box, newVar, newRow, newObj, Sem.run]

theorem d_box (hs : Sim ⟨β, H, F⟩ w) (he : EnvOk ⟨β, H, F⟩ w e a) {t : TypeId} {x : Operand} (h : sop P (.box (trO x)) e H K) : Does P β H F w a K (.box t x) := by
  simp only [sop] at h
  obtain ⟨hl, h⟩ := h
  obtain ⟨k1, k2⟩ := hs.newObj (post := []) ((he.ev x).cells hl) t (0, 0) (bare0 _)
  refine Does.mk (s := fun _ => Instr.box t (a.eval x)) (v := .pointer (some ⟨w.heap.size, 0, none⟩)) (fun o ho => by simp only [execOp, ho]) (fun o => ?_) k1 k2 (Rep.mk_op (has_new _ _ _ _ _ (Nat.le_refl _)) upd_same rfl) h
  simp [Instr.box, newVar, newRow, newObj, Sem.run]

theorem made_rep {c : Ctx} {w : World} {x : TV} {z : Array Value} (hz : RepC c w x z.toList) (h0 : z.size ≠ 0) : ∀ n, RepCs c w (List.replicate n x) (madeCells z (n * z.size)).toList
  | 0 => by simp [madeCells, RepCs]
  | n + 1 => by
    rw [List.replicate_succ, RepCs]
    refine ⟨z.toList, (madeCells z (n * z.size)).toList, ?_, hz, made_rep hz h0 n⟩
    unfold madeCells
    apply List.ext_getElem?
    intro j
    simp only [Array.toList_map, Array.toList_range, List.getElem?_map]
    have hp : 0 < z.size := Nat.pos_of_ne_zero h0
    by_cases hj : j < z.size
    · rw [List.getElem?_append_left (by simpa using hj), List.getElem?_range (by rw [Nat.add_mul]; omega)]
      simp [Nat.mod_eq_of_lt hj, hj]
    · rw [List.getElem?_append_right (by simp; omega)]
      simp only [Array.length_toList, List.getElem?_map]
      by_cases hj2 : j < (n + 1) * z.size
      · rw [List.getElem?_range hj2, List.getElem?_range (by rw [Nat.add_mul] at hj2; omega)]
        simp only [Option.map_some]
        rw [show j = j - z.size + z.size from by omega, Nat.add_mod_right]
        simp
      · rw [List.getElem?_eq_none (by simp; omega), List.getElem?_eq_none (by rw [Nat.add_mul] at hj2; simp; omega)]

theorem rep_new_row {x : TV} {vs post : List Value} {t : TypeId} {fr : Nat × Nat} {n N k cap cp : Nat} (hv : (⟨w.heap.size, 0, none⟩ : Addr) = ⟨w.heap.size, 0, none⟩) (hcap : cap ≤ 9223372036854775807) (hn : n ≤ cap) (hcp : cp ≤ cap) (hroom : cap * k ≤ (vs ++ post).length) {w0 : World} (hw0 : w0.heap.size = w.heap.size) :
    Rep ⟨upd β H.length 0 (some (w.heap.size, 0)), H ++ [.obj 0 x], F⟩ (w0.alloc (.cells (vs ++ post).toArray t fr)) (.os k H.length 0 [] 0 n cp) (.slice (some ⟨w.heap.size, 0, none⟩) n cap) := by
  refine Rep.of1 ?_ (by simp) (by simp)
  rw [RepC]
  refine ⟨has_new _ _ _ _ _ (Nat.le_refl _), .inr ⟨w.heap.size, 0, cap, t, (vs ++ post).length, upd_same, by simp [span], hn, hcap, ?_, by simpa [span] using hroom, hcp⟩⟩
  rw [← hw0]
  have := getElem?_alloc_new w0 (.cells (vs ++ post).toArray t fr)
  simp only [World.shape?, this, List.size_toArray]

theorem d_mks (hs : Sim ⟨β, H, F⟩ w) (he : EnvOk ⟨β, H, F⟩ w e a) {t et : TypeId} {k : Nat} {i : TypeInfo} {z : Value} {x : TV} (h0 : sliceOf P t = some (k, et)) (h1 : P.info? et = some i) (h2 : i.zero = some z) (h3 : z.cells.size = k ∧ k ≠ 0) (h4 : zT P 400 et z.cells.toList = some x)
    {l cp : Operand} (h : sop P (.mks k i.bytes x (trO l) (trO cp)) e H K) : Does P β H F w a K (.makeSlice t l cp) := by
  obtain ⟨g1, g2⟩ := sliceOf_spec h0
  obtain ⟨hz, hzp⟩ := zT_spec (c := Ctx.bare ⟨β, H, F⟩) (w := w) h4
  have hik : i.size = k := by unfold szOf at g2; rw [h1] at g2; simpa using g2
  simp only [sop] at h
  split at h
  · rename_i kl l' kc c' hl hc
    obtain ⟨⟨b1, b2, b3, b4⟩, h⟩ := h
    have hm := made_rep hz (by rw [h3.1]; exact h3.2) c'.toNat
    have hx : width x = k := by rw [← hz.length]; simpa using h3.1
    have hrow : RepC ⟨β, H, F⟩ w (.arr c'.toNat k (List.replicate c'.toNat x)) (madeCells z.cells (c'.toNat * z.cells.size)).toList := by
      rw [RepC]; exact ⟨by simp, fun y hy => by rw [List.eq_of_mem_replicate hy]; exact hx, hm⟩
    obtain ⟨k1, k2⟩ := hs.newObj (post := []) hrow et (0, 0) (bare0 _)
    have hr := run_make (P := P) w t et i z g1 h1 h2 kl kc l' c' b1 b2 b3 b4
    rw [List.append_nil, Array.toArray_toList] at k1 k2
    refine Does.mk (s := fun _ => Instr.makeSlice t (a.eval l) (a.eval cp)) (fun o ho => by simp only [execOp, ho]) (fun o => by rw [he.val hl, he.val hc, hr, hik, ← h3.1]) k1 k2 ?_ h
    have := rep_new_row (β := β) (H := H) (F := F) (w := w) (x := .arr c'.toNat k (List.replicate c'.toNat x)) (vs := (madeCells z.cells (c'.toNat * z.cells.size)).toList) (post := []) (t := et) (fr := (0, 0)) (n := l'.toNat) (N := 0) (k := k) (cap := c'.toNat) (cp := c'.toNat) rfl (by omega) (by omega) (Nat.le_refl _) (by simp [size_madeCells, h3.1]) (w0 := w) rfl
    rwa [List.append_nil, Array.toArray_toList] at this
  · exact h.elim

theorem d_s2b (hs : Sim ⟨β, H, F⟩ w) (he : EnvOk ⟨β, H, F⟩ w e a) {src dst : TypeId} (h1 : (isStr P src && isU8s P dst) = true) {x : Operand} (h : sop P (.s2b (trO x)) e H K) : Does P β H F w a K (.convert src dst x) := by
  rw [Bool.and_eq_true] at h1
  have g1 := isStr_spec h1.1
  obtain ⟨et, g2, g3⟩ := isU8s_spec h1.2
  simp only [sop] at h
  split at h
  · rename_i s hx
    obtain ⟨hlen, h⟩ := h
    have hsz : (bl s).length = s.size := by simp [bl]
    have hr := run_bytes_of_string (P := P) w src dst et s g1 g2 g3
    rw [show Value.slice (some ⟨w.heap.size, 0, none⟩) s.size (grownCap w s.size 0 et) = .slice (some ⟨w.heap.size, 0, none⟩) (bl s).length (grownCap w s.size 0 et) from by rw [hsz]] at hr
    have hge := grownCap_ge w s.size 0 et
    have hcm := grownCap_le_maxLen w s.size 0 et (by unfold maxLen; omega)
    have hrow : RepC ⟨β, H, F⟩ w.drew (.arr (bl s).length 1 ((bl s).map by8)) ((bl s).map fun b => Value.int .u8 b.toNat) := by
      rw [RepC]; exact ⟨by simp, by simp [width], repCs_bytes _⟩
    have hbr : bytesRow s (grownCap w s.size 0 et) = (((bl s).map fun b => Value.int .u8 b.toNat) ++ List.replicate (grownCap w s.size 0 et - s.size) (Value.int .u8 0)).toArray := by
      apply Array.ext'; simp [bytesRow, bl]
    rw [hbr] at hr
    generalize grownCap w s.size 0 et = cap at *
    generalize hrp : List.replicate (cap - s.size) (Value.int .u8 0) = post at *
    have hpl : post.length = cap - s.size := by rw [← hrp]; simp
    obtain ⟨k1, k2⟩ := (hs.heap (w' := w.drew) rfl).newObj (post := post) hrow et ((((bl s).map fun b => Value.int .u8 b.toNat) ++ post).toArray.size, (((bl s).map fun b => Value.int .u8 b.toNat) ++ post).toArray.size + 1) (fun o ho hh => by
      simp only [List.size_toArray] at hh; omega)
    refine Does.mk (s := fun _ => convert src dst (a.eval x)) (fun o ho => by simp only [execOp, ho]) (fun o => by rw [he.val hx, hr]) k1 ((Later.heap (w := w) (w' := w.drew) rfl rfl rfl rfl).trans k2) ?_ h
    refine rep_new_row (β := β) (H := H) (F := F) (w := w) (N := 0) rfl (by unfold maxLen at hcm; omega) (by omega) (by omega) ?_ (w0 := w.drew) rfl
    simp only [List.length_append, List.length_map, hpl, hsz]; omega
  · exact h.elim

theorem run_store_cells {t : TypeId} {sz b o : Nat} {v : Value} (h2 : szOf P t = some sz) (hv : v.cells.size = sz) (h1 : ∀ u ∈ v.cells.toList, u.oneCell' = true) (ht : w.there b o v.cells.toList.length) :
    (Instr.storeAt t (.pointer (some ⟨b, o, none⟩)) v).run P w = .ok () (w.setCells b o v.cells.toList) := by
  have := run_storeCells_cells (P := P) b o v.cells.toList 0 w (fun j hj => by simpa using (ht j hj).1) (fun j hj => by simpa using (ht j hj).2) h1
  simp only [Nat.add_zero] at this
  simp [Instr.storeAt, Instr.sureAddr, storeVar, run_szOf h2, hv, this]

theorem d_store (hs : Sim ⟨β, H, F⟩ w) (he : EnvOk ⟨β, H, F⟩ w e a) {t : TypeId} {sz : Nat} (h2 : szOf P t = some sz) {x y : Operand} (h : sop P (.store sz (trO x) (trO y)) e H K) : Does P β H F w a K (.store t x y) := by
  simp only [sop] at h
  obtain ⟨⟨hl, hw⟩, h⟩ := h
  have hc := (he.ev y).cells hl
  split at h
  · rename_i id ver p hx
    split at h
    · rename_i vr z hid
      obtain ⟨rfl, h⟩ := h
      split at h
      · rename_i z' hz
        obtain ⟨g1, b, o, hb, hv⟩ := (he.rep hx).op
        obtain ⟨k1, k2, k3⟩ := hs.store hid hb hz hc
        have hsz : (a.eval y).cells.size = sz := by rw [← hw, ← hc.length]; simp
        intro op KK Q hop hnd hk
        refine OW.of_wp (by rw [hop]; exact hnd) ?_
        have hr := run_store_cells (P := P) h2 hsz hc.one k3
        unfold Oper.wp
        simp only [execOp, hop, hv, Sem.run_bind, hr, Result.andThen_ok, Sem.run_pure]
        exact hk _ _ _ _ _ _ h k1 k2 Rep.any
      · exact h.elim
    · exact h.elim
  · exact h.elim

/-- A value that can be laid is what its cells say. -/
theorem rep_mkV {c : Ctx} {w : World} {x : TV} {v : Value} (h : Rep c w x v) (hl : lays x = true) : v = mkV x v.cells.toList := by
  rcases h with (h | h | ⟨us, h3, h4⟩) | ⟨xs, vs, h, _⟩
  · rw [h] at hl; simp [lays] at hl
  · subst h
    simp only [lays] at hl
    rw [cells_one hl]; rfl
  · have hc : v.cells.toList = us := by
      rw [h4]
      cases x with
      | agg cs => simp [mkV, Value.cells]
      | arr n k cs => simp [mkV, Value.cells]
      | tup cs => rw [RepC] at h3; exact h3.elim
      | _ =>
        have hlen := h3.length
        simp only [width] at hlen
        obtain ⟨u, rfl⟩ := List.length_eq_one_iff.1 hlen
        simp [mkV, cells_one (h3.one u (by simp))]
    rw [hc]; exact h4
  · rw [h] at hl; simp [lays] at hl
/-- A map of one's own is changed. -/
theorem Sim.setMap (hs : Sim ⟨β, H, F⟩ w) {id : Nat} {kk kk' : MK} {es es' : List (List UInt8 × TV)} {b : Nat} {ms ms' : Array MapEntry} {cl cl' : Nat} (hid : H[id]? = some (.mpo kk es)) (hb : β id 0 = some (b, 0)) (hh : w.heap[b]? = some (.map ms cl))
    (he : EntsOk ⟨β, H, F⟩ w kk' es' ms'.toList) (hc : cl' = ms'.size) (hbn : ms'.toList.map (·.born) = List.range ms'.size) :
    Sim ⟨β, H.set id (.mpo kk' es'), F⟩ { w with heap := w.heap.setIfInBounds b (.map ms' cl') } ∧ Later ⟨β, H, F⟩ w ⟨β, H.set id (.mpo kk' es'), F⟩ { w with heap := w.heap.setIfInBounds b (.map ms' cl') } := by
  have hlt := (Array.getElem?_eq_some_iff.1 hh).1
  have hother : ∀ b', b' ≠ b → (w.heap.setIfInBounds b (.map ms' cl'))[b']? = w.heap[b']? := fun b' h => by rw [Array.getElem?_setIfInBounds_ne (Ne.symm h)]
  refine hs.turn hid rfl rfl (Nat.le_refl _) (fun i v _ => rfl) (fun b2 off e => .inl ⟨off, e⟩) rfl rfl rfl (by simp) (fun b2 _ => ?_) (fun b2 _ hne => hother b2 (fun e => hne 0 (e ▸ hb))) (fun hm => ⟨b, ms', cl', hb, by simp [hlt], EntsOk.mono hm he, hc, hbn⟩)
  by_cases e : b2 = b
  · subst e
    have h1 : (w.heap.setIfInBounds b2 (.map ms' cl'))[b2]? = some (.map ms' cl') := by simp [hlt]
    simp only [World.shape?, h1, hh]
  · simp [World.shape?, hother b2 e]
theorem d_mkm (hs : Sim ⟨β, H, F⟩ w) (he : EnvOk ⟨β, H, F⟩ w e a) {t kt et : TypeId} {kk : MK} (h1 : P.underlying t = some (.map kt et)) {r : Option Operand} (h : sop P (.mkm kk (r.map trO)) e H K) : Does P β H F w a K (.makeMap t r) := by
  simp only [sop] at h
  obtain ⟨hr, h⟩ := h
  obtain ⟨k1, k2⟩ := hs.new (.mpo kk []) rfl (some (w.heap.size, 0)) (w' := w.alloc (.map #[] 0)) (fun b off e => by cases e; exact Nat.le_refl _) rfl rfl rfl (by simp) (fun b hb => alloc_old w _ hb) (fun hm => ⟨w.heap.size, #[], 0, upd_same, getElem?_alloc_new w _, by rw [EntsOk], rfl, rfl⟩)
  refine Does.mk (s := fun _ => Instr.makeMap t (r.map a.eval)) (v := .map (some w.heap.size)) (fun o ho => by simp only [execOp, ho]) (fun o => ?_) k1 k2 (Rep.of1 ?_ (by simp) (by simp)) h
  · cases r with
    | none => simp [Instr.makeMap]
    | some x =>
      simp only [Option.map_some] at hr
      split at hr
      · rename_i q n hx
        have hv := he.val hx
        simp [Instr.makeMap, run_underlying h1, hv, asInt, asIntOf]
      · exact hr.elim
  · rw [RepC]; exact ⟨has_new _ _ _ _ _ (Nat.le_refl _), _, _, upd_same, rfl⟩
theorem born_modify {ms : Array MapEntry} {j : Nat} {f : MapEntry → MapEntry} (hf : ∀ m, (f m).born = m.born) : (ms.modify j f).toList.map (·.born) = ms.toList.map (·.born) := by
  rw [Array.toList_modify]
  apply List.ext_getElem?
  intro i
  simp only [List.getElem?_map, List.getElem?_modify]
  cases ms.toList[i]? with
  | none => rfl
  | some m => by_cases hij : j = i <;> simp [hij, hf]
theorem d_mupd (hs : Sim ⟨β, H, F⟩ w) (he : EnvOk ⟨β, H, F⟩ w e a) {t kt et : TypeId} {kk : MK} (h1 : P.underlying t = some (.map kt et)) (h2 : keyK P kt = some kk) {m k x : Operand} (h : sop P (.mupd kk (trO m) (trO k) (trO x)) e H K) : Does P β H F w a K (.mapUpdate t m k x) := by
  simp only [sop] at h
  split at h
  · rename_i id kb hm hkb
    split at h
    · rename_i kk' es hid
      obtain ⟨⟨rfl, hl⟩, h⟩ := h
      obtain ⟨hk1, hk2⟩ := kBytes_spec hkb (he.ev k)
      obtain ⟨_, b, o, hb, hv⟩ := (he.rep hm).mp
      obtain ⟨b', ms, cl, k1, k2, k3, k4, k5⟩ := hs.ob id _ hid
      have k1' : β id 0 = some (b', 0) := k1
      have hb' : β id 0 = some (b, o) := hb
      rw [hb'] at k1'
      obtain ⟨rfl, rfl⟩ : b = b' ∧ o = 0 := by simpa using k1'
      have hck := run_checkKey (P := P) (w := w) h2 hk2 false
      have hfk := run_findKey (P := P) (w := w) h2 hk2 k3
      have hx := (he.ev x).cells hl
      have hxv := rep_mkV (he.ev x) hl
      intro op KK Q hop hnd hk
      refine OW.of_wp (by rw [hop]; exact hnd) ?_
      unfold Oper.wp
      rcases lkp_get (k := kb) 0 k3 with ⟨g1, g2⟩ | ⟨j, v, y, m', g1, g2, g3, g4, g5, g6, g7⟩
      · obtain ⟨s1, s2⟩ := hs.setMap (ms' := ms.push { key := kVal kk' kb, val := a.eval x, born := cl }) (cl' := cl + 1) (es' := mput kb ((trO x).ev e) es) (kk' := kk') hid hb' k2 (by
          rw [Array.toList_push]; exact ents_push hk2 rfl hx hxv k3 g2) (by rw [k4]; simp) (by rw [Array.toList_push, List.map_append, k5, k4]; simp [List.range_succ])
        have hr : (Instr.mapUpdate t (a.eval m) (a.eval k) (a.eval x)).run P w = .ok () { w with heap := w.heap.setIfInBounds b (.map (ms.push { key := kVal kk' kb, val := a.eval x, born := cl }) (cl + 1)) } := by
          rw [hv, hk1]
          simp only [Instr.mapUpdate, Sem.run_bind, run_underlying h1, Result.andThen_ok, run_getMap k2, hck, hfk, g1]
          rw [run_setMap _ k2]
        simp only [execOp, hop, Sem.run_bind, hr, Result.andThen_ok, Sem.run_pure]
        exact hk _ _ _ _ _ _ h s1 s2 Rep.any
      · rw [Nat.zero_add] at g1
        obtain ⟨s1, s2⟩ := hs.setMap (ms' := ms.modify j fun e => { e with key := kVal kk' kb, val := a.eval x }) (cl' := cl) (es' := mput kb ((trO x).ev e) es) (kk' := kk') hid hb' k2 (by
          rw [Array.toList_modify]; exact ents_set hk2 hx hxv 0 j v k3 (by rw [g1, Nat.zero_add])) (by rw [k4]; simp) (by refine (born_modify ?_).trans ?_ <;> first | (intro m; rfl) | (rw [k5]; simp))
        have hold : ((ms[j]?).map (·.key)).getD (kVal kk' kb) = kVal kk' kb := by
          rw [← Array.getElem?_toList, g3]; exact g5
        have hr : (Instr.mapUpdate t (a.eval m) (a.eval k) (a.eval x)).run P w = .ok () { w with heap := w.heap.setIfInBounds b (.map (ms.modify j fun e => { e with key := kVal kk' kb, val := a.eval x }) cl) } := by
          rw [hv, hk1]
          simp only [Instr.mapUpdate, Sem.run_bind, run_underlying h1, Result.andThen_ok, run_getMap k2, hck, hfk, g1, hold, Instr.keyThatStays, sameBits_key, if_true, Sem.run_pure]
          rw [run_setMap _ k2]
        simp only [execOp, hop, Sem.run_bind, hr, Result.andThen_ok, Sem.run_pure]
        exact hk _ _ _ _ _ _ h s1 s2 Rep.any
    · exact h.elim
  · exact h.elim
theorem d_ment (hs : Sim ⟨β, H, F⟩ w) (he : EnvOk ⟨β, H, F⟩ w e a) {t kt : TypeId} {kk : MK} {z : Value} {zx : TV} (h1 : mapOf P t = some (kt, kk, z, zx)) {m k : Operand} (h : sop P (.ment kk zx (trO m) (trO k)) e H K) : Does P β H F w a K (.mapEntry t m k) := by
  obtain ⟨et, u1, u2, u3, u4, u5⟩ := mapOf_spec h1
  simp only [sop] at h
  split at h
  · rename_i id kb hm hkb
    split at h
    · rename_i kk' es hid
      obtain ⟨rfl, h⟩ := h
      obtain ⟨hk1, hk2⟩ := kBytes_spec hkb (he.ev k)
      obtain ⟨_, b, o, hb, hv⟩ := (he.rep hm).mp
      obtain ⟨b', ms, cl, k1, k2, k3, k4, k5⟩ := hs.ob id _ hid
      have k1' : β id 0 = some (b', 0) := k1
      have hb' : β id 0 = some (b, o) := hb
      rw [hb'] at k1'
      obtain ⟨rfl, rfl⟩ : b = b' ∧ o = 0 := by simpa using k1'
      have hck := run_checkKey (P := P) (w := w) u2 hk2 false
      have hfk := run_findKey (P := P) (w := w) u2 hk2 k3
      obtain ⟨p1, p2⟩ := lkp_pos (k := kb) 0 k3
      have hlen := ents_len k3
      have mk : ∀ {x : TV} {v : Value} {w' : World} {H' : List Ob}, (Instr.mapEntry t (a.eval m) (a.eval k)).run P w = .ok (.tuple #[v, goInt (mpos kb es)]) w' → Sim ⟨β, H', F⟩ w' → Later ⟨β, H, F⟩ w ⟨β, H', F⟩ w' → RepC ⟨β, H', F⟩ w' x v.cells.toList → v = mkV x v.cells.toList → K (.tup [x, .val (.int .i64 (mpos kb es))]) H' → Does P β H F w a K (.mapEntry t m k) := by
        intro x v w' H' hr s1 s2 hx hxv hK
        refine Does.mk (s := fun _ => Instr.mapEntry t (a.eval m) (a.eval k)) (fun o ho => by simp only [execOp, ho]) (fun o => hr) s1 s2 ?_ hK
        refine .inr ⟨_, [v, goInt (mpos kb es)], rfl, rfl, ?_⟩
        rw [RepL.cons]; refine ⟨v, [goInt (mpos kb es)], rfl, .inr (.inr ⟨_, hx, hxv⟩), ?_⟩
        rw [RepL.cons]; refine ⟨goInt (mpos kb es), [], rfl, .inr (.inl rfl), ?_⟩
        rw [RepL.nil]
      rcases lkp_get (k := kb) 0 k3 with ⟨g1, g2⟩ | ⟨j, v, y, m', g1, g2, g3, g4, g5, g6, g7⟩
      · rw [g2] at h
        obtain ⟨s1, s2⟩ := hs.setMap (ms' := ms.push { key := kVal kk' kb, val := z, born := cl }) (cl' := cl + 1) (es' := mput kb zx es) (kk' := kk') hid hb' k2 (by
          rw [Array.toList_push]; exact ents_push hk2 rfl (u4 _ _) u5 k3 g2) (by rw [k4]; simp) (by rw [Array.toList_push, List.map_append, k5, k4]; simp [List.range_succ])
        refine mk (v := z) (x := zx) ?_ s1 s2 (u4 _ _) u5 h
        have hcl : cl = mpos kb es := by rw [p2 g2, ← hlen, k4]; simp
        rw [hv, hk1]
        simp only [Instr.mapEntry, Sem.run_bind, run_underlying u1, Result.andThen_ok, run_getMap k2, hck, hfk, g1, u3]
        rw [run_setMap _ k2, ← hcl]; rfl
      · rw [g2] at h
        rw [Nat.zero_add] at g1
        have hjp : j = mpos kb es := by have := p1 j v (by rw [g1]); omega
        obtain ⟨s1, s2⟩ := hs.setMap (ms' := ms.modify j fun e => { e with key := kVal kk' kb }) (cl' := cl) (es' := mput kb y es) (kk' := kk') hid hb' k2 (by
          rw [Array.toList_modify]
          have := ents_set hk2 g6 g7 0 j v k3 (by rw [g1, Nat.zero_add])
          have e1 : (ms.toList.modify j fun e => { e with key := kVal kk' kb, val := v }) = ms.toList.modify j fun e => { e with key := kVal kk' kb } := by
            apply List.ext_getElem?
            intro i
            simp only [List.getElem?_modify]
            by_cases hij : j = i
            · subst hij; rw [g3]; simp [g4]
            · simp [hij]
          rwa [e1] at this) (by rw [k4]; simp) (by refine (born_modify ?_).trans ?_ <;> first | (intro m; rfl) | (rw [k5]; simp))
        have hold : ((ms[j]?).map (·.key)).getD (kVal kk' kb) = kVal kk' kb := by
          rw [← Array.getElem?_toList, g3]; exact g5
        have hborn : ((ms[j]?).map (fun x => (x.born : Int))).getD 0 = (mpos kb es : Int) := by
          have hjl : j < ms.size := by
            have := (List.getElem?_eq_some_iff.1 g3).1; simpa using this
          have := congrArg (·[j]?) k5
          simp only [List.getElem?_map, List.getElem?_range hjl] at this
          have h9 : (ms[j]?).map (fun x => (x.born : Int)) = some (j : Int) := by
            rw [← Array.getElem?_toList]
            cases hq : ms.toList[j]? with
            | none => rw [hq] at this; cases this
            | some q => rw [hq] at this; simp only [Option.map_some, Option.some.injEq] at this ⊢; omega
          rw [h9, hjp]; rfl
        refine mk (v := v) (x := y) ?_ s1 s2 (RepC.mono (s2.mono hs) g6) g7 h
        rw [hv, hk1]
        simp only [Instr.mapEntry, Sem.run_bind, run_underlying u1, Result.andThen_ok, run_getMap k2, hck, hfk, g1, hold, Instr.keyThatStays, sameBits_key, if_true, Sem.run_pure]
        rw [run_setMap _ k2, Result.andThen_ok, hborn]
    · exact h.elim
  · exact h.elim
theorem d_mest (hs : Sim ⟨β, H, F⟩ w) (he : EnvOk ⟨β, H, F⟩ w e a) {t : TypeId} {m st x : Operand} (h : sop P (.mest (trO m) (trO st) (trO x)) e H K) : Does P β H F w a K (.entryStore t m st x) := by
  simp only [sop] at h
  split at h
  · rename_i id q j hm hst
    split at h
    · rename_i kk es hid
      obtain ⟨⟨h0, hl⟩, h⟩ := h
      split at h
      · rename_i kb y hj
        obtain ⟨_, b, o, hb, hv⟩ := (he.rep hm).mp
        obtain ⟨b', ms, cl, k1, k2, k3, k4, k5⟩ := hs.ob id _ hid
        have k1' : β id 0 = some (b', 0) := k1
        have hb' : β id 0 = some (b, o) := hb
        rw [hb'] at k1'
        obtain ⟨rfl, rfl⟩ : b = b' ∧ o = 0 := by simpa using k1'
        have hx := (he.ev x).cells hl
        have hxv := rep_mkV (he.ev x) hl
        have hjl : j.toNat < ms.size := by
          have := (List.getElem?_eq_some_iff.1 hj).1
          rw [← ents_len k3] at this; simpa using this
        obtain ⟨s1, s2⟩ := hs.setMap (ms' := ms.modify j.toNat fun e => { e with val := a.eval x }) (cl' := cl) (es' := es.set j.toNat (kb, (trO x).ev e)) (kk' := kk) hid hb' k2 (by
          rw [Array.toList_modify]; exact ents_at hx hxv j.toNat k3 hj) (by rw [k4]; simp) (by refine (born_modify ?_).trans ?_ <;> first | (intro m; rfl) | (rw [k5]; simp))
        have hfi : ms.findIdx? (fun e => (e.born : Int) == j) = some j.toNat := by
          have hb2 : ∀ i (hi : i < ms.size), ms[i].born = i := by
            intro i hi
            have := congrArg (·[i]?) k5
            simp only [List.getElem?_map, List.getElem?_range hi] at this
            rw [Array.getElem?_toList, Array.getElem?_eq_getElem hi] at this
            simpa using this
          rw [Array.findIdx?_eq_some_iff_getElem]
          refine ⟨hjl, ?_, fun i hi => ?_⟩
          · rw [hb2 _ hjl]; simp; omega
          · rw [hb2 i (by omega)]; simp; omega
        intro op KK Q hop hnd hk
        refine OW.of_wp (by rw [hop]; exact hnd) ?_
        unfold Oper.wp
        have hr : (Instr.entryStore t (a.eval m) (a.eval st) (a.eval x)).run P w = .ok () { w with heap := w.heap.setIfInBounds b (.map (ms.modify j.toNat fun e => { e with val := a.eval x }) cl) } := by
          rw [hv, he.val hst]
          simp only [Instr.entryStore, Sem.run_bind, Result.andThen_ok, run_getMap k2, asInt, asIntOf, Sem.run_pure, hfi]
          rw [run_setMap _ k2]
        simp only [execOp, hop, Sem.run_bind, hr, Result.andThen_ok, Sem.run_pure]
        exact hk _ _ _ _ _ _ h s1 s2 Rep.any
      · exact h.elim
    · exact h.elim
  · exact h.elim
theorem app_sound (hs : Sim ⟨β, H, F⟩ w) {x : TV} {v : Value} (hx : Rep ⟨β, H, F⟩ w x v) {t tx ty et : TypeId} {k : Nat} {i : TypeInfo} {z : Value} (h0 : sliceOf P t = some (k, et)) (h1 : P.info? et = some i) (h2 : i.zero = some z) (h3 : z.cells.size = k)
    {y : Value} {ys : List TV} {us : List Value} (hy : RepCs (Ctx.bare ⟨β, H, F⟩) w ys us) (hyk : ∀ y ∈ ys, width y = k) (hsrc : Src P k tx y ys.length us w) (h : appTo k i.bytes et x ys H K) :
    ∃ v' w' β' H' x', (Builtin.append_ #[t, tx] ty #[v, y]).run P w = .ok v' w' ∧ Sim ⟨β', H', F⟩ w' ∧ Later ⟨β, H, F⟩ w ⟨β', H', F⟩ w' ∧ Rep ⟨β', H', F⟩ w' x' v' ∧ K x' H' := by
  obtain ⟨g1, g2⟩ := sliceOf_spec h0
  have hik : i.size = k := by unfold szOf at g2; rw [h1] at g2; simpa using g2
  unfold appTo at h
  split at h
  · obtain ⟨⟨b1, b2⟩, h⟩ := h
    rw [Rep.val] at hx; subst hx
    obtain ⟨k1, k2⟩ := hs.newNone (x := .arr 0 k []) (by rw [RepC]; exact ⟨rfl, by simp, by rw [RepCs]⟩)
    have hm := Mono.toBare (β := β) (F := F) (w := w) [] (upd β H.length 0 none)
    obtain ⟨v', w', β', r1, r2, r3, r4, _⟩ := k1.append (P := P) (id := H.length) (ver := 0) (off := 0) (n := 0) (N := 0) (k := k) (cs := []) (by simp) (by simp) (v := .slice none 0 0) (cp := 0)
      (by rw [RepC]; exact ⟨has_new _ _ _ _ _ (Nat.le_refl _), .inl ⟨rfl, none, rfl, rfl, fun _ h => by cases h⟩⟩) g1 h1 h2 (by rw [h3, hik]) hik (RepCs.mono hm hy) hyk hsrc (ty := ty) (by simpa using b1) (by simpa using b2)
    simp only [Nat.zero_add, List.drop_nil, List.take_nil, List.nil_append] at r2 r3 r4
    have hset : (H ++ [Ob.obj 0 (.arr 0 k [])]).set H.length (.obj 1 (.arr ys.length k ys)) = H ++ [.obj 1 (.arr ys.length k ys)] := by simp
    rw [hset] at r2 r3 r4
    exact ⟨v', w', β', _, _, r1, r2, k2.trans r3, Rep.of1 r4 (by simp) (by simp), h⟩
  · rename_i k' id ver off n cp
    obtain ⟨rfl, h⟩ := h
    split at h
    · rename_i ob hob
      obtain ⟨⟨b1, b2, b3⟩, h⟩ := h
      unfold appO at hob
      split at hob
      · rename_i vr N k'' cs hid
        split at hob
        · rename_i hc
          obtain ⟨rfl, rfl⟩ := hc
          cases hob
          rw [hid] at b1
          obtain ⟨v', w', β', r1, r2, r3, r4, _⟩ := hs.append (P := P) (ty := ty) hid b1 hx.os g1 h1 h2 (by rw [h3, hik]) hik hy hyk hsrc b2 b3
          exact ⟨v', w', β', _, _, r1, r2, r3, Rep.of1 r4 (by simp) (by simp), h⟩
        · cases hob
      · rename_i vr t' l hid
        split at hob
        · rename_i hc
          obtain ⟨e1, e2, e3, e4, hby⟩ := hc
          subst e1; subst e2; subst e3; subst e4
          cases hob
          rw [hid] at b1
          have b1' : 0 + n ≤ l.length := b1
          have hlt : id < H.length := (List.getElem?_eq_some_iff.1 hid).1
          have hob := hs.ob id _ hid
          have hik1 : i.size = 1 := hik
          have h31 : z.cells.size = 1 := h3
          obtain ⟨s1, s2⟩ := hs.view (o' := .obj vr (.arr l.length 1 (l.map by8))) hid rfl rfl rfl (fun hm => by
            rcases hob with ⟨q1, q2⟩ | ⟨b, post, fr, q1, q2, q3⟩
            · exact .inl ⟨q1, by rw [q2, RepC]; exact ⟨rfl, by simp, by rw [List.map_nil, RepCs]⟩⟩
            · refine .inr ⟨b, 0, [], _, post, t', fr, q1, q2, q3, rfl, ?_⟩
              rw [RepC]; exact ⟨by simp, by simp [width], repCs_bytes l⟩)
          have hid1 : (H.set id (Ob.obj vr (.arr l.length 1 (l.map by8))))[id]? = some (.obj vr (.arr l.length 1 (l.map by8))) := by simp [hlt]
          obtain ⟨v', w', β', r1, r2, r3, r4, r5⟩ := s1.append (P := P) (ty := ty) hid1 (by rw [List.length_map]; exact b1') (Rep.mono (s2.mono hs) hx).os g1 h1 h2 (by rw [h31, hik1]) hik1 hy hyk hsrc b2 b3
          rw [List.set_set] at r2 r3 r4
          have hlt2 : id < (H.set id (Ob.obj (vr + 1) (.arr (n + ys.length) 1 (((l.map by8).drop 0).take n ++ ys)))).length := by simpa using hlt
          have hid2 : (H.set id (Ob.obj (vr + 1) (.arr (n + ys.length) 1 (((l.map by8).drop 0).take n ++ ys))))[id]? = some (.obj (vr + 1) (.arr (n + ys.length) 1 (((l.map by8).drop 0).take n ++ ys))) := by simp [hlt]
          have hisby : ∀ y ∈ ((l.map by8).drop 0).take n ++ ys, isBy y := by
            intro y hy'
            rcases List.mem_append.1 hy' with hy' | hy'
            · rw [List.drop_zero] at hy'
              obtain ⟨b, _, rfl⟩ := List.mem_map.1 (List.mem_of_mem_take hy'); exact isBy_by8 b
            · exact isByB_is (List.all_eq_true.1 hby y hy')
          have hunby : (((l.map by8).drop 0).take n ++ ys).map unby = l.take n ++ ys.map unby := by
            rw [List.drop_zero, List.map_append, ← List.map_take, unby_all]
          have hob2 := r2.ob id _ hid2
          obtain ⟨z1, z2⟩ := r2.view (o' := .bld (vr + 1) t' (l.take n ++ ys.map unby)) hid2 rfl rfl rfl (fun hm => by
            rcases hob2 with ⟨q1, q2⟩ | ⟨b, off, pre, vs, post, t1, fr, q1, q2, q3, q4, q5⟩
            · refine .inl ⟨q1, ?_⟩
              rw [RepC] at q2
              have hb := bytes_of hisby q2.2.2
              rw [hunby] at hb
              simpa using hb.symm
            · rw [RepC] at q5
              have hb := bytes_of hisby q5.2.2
              rw [hunby] at hb
              have hsh : w'.shape? b = some (t1, (pre ++ vs ++ post).length) := by simp [World.shape?, q2]
              have hoff : off = 0 ∧ t1 = t' := by
                rcases r5 b off q1 with ⟨p1, m, p2⟩ | p1
                · rw [hsh] at p2; cases p2; exact ⟨p1, rfl⟩
                · have p2 := p1 rfl
                  rcases hob with ⟨o1, _⟩ | ⟨b', post', fr', o1, o2, o3⟩
                  · have o1' : β id vr = none := o1
                    rw [o1'] at p2; cases p2
                  · have o1' : β id vr = some (b', 0) := o1
                    rw [o1'] at p2; cases p2
                    have hbl : b < w.heap.size := (Array.getElem?_eq_some_iff.1 o2).1
                    have := r3.shape b hbl
                    rw [hsh] at this
                    simp only [World.shape?, o2, Option.some.injEq, Prod.mk.injEq] at this
                    exact ⟨rfl, this.1⟩
              obtain ⟨rfl, rfl⟩ := hoff
              have hp : pre = [] := List.length_eq_zero_iff.1 q4
              subst hp
              rw [hb] at q2 q3
              exact .inr ⟨b, post, fr, q1, q2, q3⟩)
          rw [List.set_set] at z1 z2
          have hr4 := Rep.mono (z2.mono r2) (Rep.of1 r4 (by simp) (by simp))
          exact ⟨v', w', β', _, _, r1, z1, (s2.trans r3).trans z2, hr4, h⟩
        · cases hob
      · cases hob
    · exact h.elim
  · exact h.elim

theorem d_app (hs : Sim ⟨β, H, F⟩ w) (he : EnvOk ⟨β, H, F⟩ w e a) {t tx et : TypeId} {k : Nat} {i : TypeInfo} {z : Value} (h0 : sliceOf P t = some (k, et)) (h1 : P.info? et = some i) (h2 : i.zero = some z) (h3 : z.cells.size = k) (h4 : (sliceOf P tx).isSome = true)
    {x y : Operand} (h : sop P (.app k i.bytes et (trO x) (trO y)) e H K) : Does P β H F w a K (.call { callee := .builtin .append, args := [x, y].toArray, argTypes := [t, tx].toArray }) := by
  obtain ⟨⟨kx, etx⟩, h4⟩ := Option.isSome_iff_exists.1 h4
  have g4 := (sliceOf_spec h4).1
  simp only [sop] at h
  split at h
  · rename_i ys hys
    obtain ⟨hyk, us, hus, hrd⟩ := elemsOf_spec hs (he.ev y) hys
    have hsrc := hrd.src hus.one g4
    intro o KK Q ho hnd hk
    refine OW.of_wp (by rw [ho]; exact hnd) ?_
    obtain ⟨v', w', β', H', x', r1, r2, r3, r4, r5⟩ := app_sound (ty := o.type) hs (he.ev x) h0 h1 h2 h3 hus hyk hsrc h
    unfold Oper.wp
    simp only [execOp, ho, resolve, invoke, builtin, Sem.run_bind, Sem.run_pure, Result.andThen_ok, List.map_toArray, List.map_cons, List.map_nil, r1]
    exact hk _ _ _ _ _ _ r5 r2 r3 r4
  · exact h.elim

theorem d_appS (hs : Sim ⟨β, H, F⟩ w) (he : EnvOk ⟨β, H, F⟩ w e a) {t tx et : TypeId} {i : TypeInfo} {z : Value} (h0 : sliceOf P t = some (1, et)) (h1 : P.info? et = some i) (h2 : i.zero = some z) (h3 : z.cells.size = 1) (hb : i.bytes = 1) (h4 : isStr P tx = true)
    {x y : Operand} (h : sop P (.appS et (trO x) (trO y)) e H K) : Does P β H F w a K (.call { callee := .builtin .append, args := [x, y].toArray, argTypes := [t, tx].toArray }) := by
  have g4 := isStr_spec h4
  simp only [sop] at h
  split at h
  · rename_i s hy
    have hsrc := Src.ofString (P := P) w g4 s
    have hlen : ((bl s).map by8).length = s.size := by simp [bl]
    rw [← hlen] at hsrc
    intro o KK Q ho hnd hk
    refine OW.of_wp (by rw [ho]; exact hnd) ?_
    obtain ⟨v', w', β', H', x', r1, r2, r3, r4, r5⟩ := app_sound (ty := o.type) hs (he.ev x) h0 h1 h2 h3 (repCs_bytes (bl s)) (by simp [width]) hsrc (by rw [hb]; exact h)
    unfold Oper.wp
    rw [← he.val hy] at r1
    simp only [execOp, ho, resolve, invoke, builtin, Sem.run_bind, Sem.run_pure, Result.andThen_ok, List.map_toArray, List.map_cons, List.map_nil, r1]
    exact hk _ _ _ _ _ _ r5 r2 r3 r4
  · exact h.elim

theorem setCell_self {w : World} {a : Addr} {v : Value} (h : w.cell? a = some v) : w.setCell a v = w := by
  have hb := World.block_lt_of_cell? w a h
  have hh : (w.setCell a v).heap = w.heap := by
    unfold World.cell? at h
    split at h
    · rename_i c t fr hc
      split at h
      · cases h
      · rename_i hsp
        apply Array.ext_getElem?
        intro i
        by_cases hi : i = a.block
        · subst hi
          simp only [World.setCell, Array.getElem?_modify, if_true, hc, Option.map_some]
          rw [if_neg hsp]
          congr 2
          apply Array.ext_getElem?
          intro j
          rw [Array.getElem?_setIfInBounds]
          split
          · rename_i hj; subst hj
            split
            · exact h.symm
            · rename_i hlt; rw [Array.getElem?_eq_none (by omega)]
          · rfl
        · exact Below.heap_setCell _ _ _ _ hi
    · cases h
  cases w
  simp only [World.setCell] at hh ⊢
  simp only [hh]
theorem setCells_self {b : Nat} : ∀ {vs : List Value} {off : Nat} {w : World}, CellsAt w b off vs → w.setCells b off vs = w
  | [], off, w, h => rfl
  | v :: vs, off, w, h => by
    have h0 := h 0 v rfl
    rw [World.setCells, setCell_self (by simpa using h0)]
    exact setCells_self fun j u hj => by
      have := h (j + 1) u (by simpa using hj)
      rw [show off + 1 + j = off + (j + 1) from by omega]; exact this
theorem setCells_append (b : Nat) : ∀ (xs ys : List Value) (off : Nat) (w : World), w.setCells b off (xs ++ ys) = (w.setCells b off xs).setCells b (off + xs.length) ys
  | [], ys, off, w => by simp [World.setCells]
  | x :: xs, ys, off, w => by
    rw [List.cons_append, World.setCells, World.setCells, setCells_append b xs ys (off + 1), List.length_cons]
    congr 1; omega
theorem cellsAt_setCells {w : World} {b off o2 : Nat} {us vs : List Value} (h : CellsAt w b off us) (hd : o2 + vs.length ≤ off) : CellsAt (w.setCells b o2 vs) b off us := by
  intro j u hj
  rw [World.cell?_setCells_out b vs o2 w ⟨b, off + j, none⟩ (fun _ _ => .inr (by show o2 + vs.length ≤ off + j; omega))]
  exact h j u hj

theorem copy_sound (hs : Sim ⟨β, H, F⟩ w) {x : TV} {v : Value} (hx : Rep ⟨β, H, F⟩ w x v) {t tx ty et : TypeId} {k : Nat} (h0 : sliceOf P t = some (k, et))
    {y : Value} {ys : List TV} {us : List Value} (hy : RepCs (Ctx.bare ⟨β, H, F⟩) w ys us) (hyk : ∀ y ∈ ys, width y = k) (hlen : (Builtin.lenOf y).run P w = .ok ys.length w)
    (hfc : ∀ n, n ≤ ys.length → (Builtin.firstCells k n y).run P w = .ok (us.take (n * k)).toArray w) (h : copyTo k x ys H K) :
    ∃ v' w' β' H' x', (Builtin.copy_ #[t, tx] ty #[v, y]).run P w = .ok v' w' ∧ Sim ⟨β', H', F⟩ w' ∧ Later ⟨β, H, F⟩ w ⟨β', H', F⟩ w' ∧ Rep ⟨β', H', F⟩ w' x' v' ∧ K x' H' := by
  obtain ⟨g1, g2⟩ := sliceOf_spec h0
  unfold copyTo at h
  split at h
  · rename_i k' id ver p off n cp
    obtain ⟨rfl, h⟩ := h
    split at h
    · rename_i vr z hid
      obtain ⟨rfl, h⟩ := h
      split at h
      · rename_i N k'' cs hg
        obtain ⟨rfl, hb, h⟩ := h
        split at h
        · rename_i z' hz
          have hr := hx.os
          rw [RepC] at hr
          obtain ⟨q1, hr⟩ := hr
          have hrun : ∀ (bs : Option Addr) (cap : Nat) (w2 : World), v = .slice bs n cap → (∀ vs : List Value, vs = us.take (Nat.min ys.length n * k'') → (match bs with | some ad => (storeCells ad vs).run P w = .ok () w2 | none => w2 = w)) →
              (Builtin.copy_ #[t, tx] ty #[v, y]).run P w = .ok (.int .i64 (min ys.length n : Nat)) w2 := by
            intro bs cap w2 hv hst
            subst hv
            have h1 := hfc (Nat.min ys.length n) (Nat.min_le_left _ _)
            have h2 := hst _ rfl
            cases bs with
            | none =>
              subst h2
              simp [Builtin.copy_, run_underlying g1, run_szOf g2, hlen, h1, goInt]
            | some ad =>
              simp [Builtin.copy_, run_underlying g1, run_szOf g2, hlen, h1, h2, goInt]
          rcases hr with ⟨rfl, ad, hv, _⟩ | ⟨b, o, cap, t', m', hbo, hv, h3, h4, h5, h6⟩
          · -- nothing is copied
            have hv' : v = .slice ad 0 0 := by simpa using hv
            have hz2 : RepC ⟨β, H, F⟩ w z' (match hs.ob id _ hid with | _ => []) ∨ True := .inr trivial
            -- the object stays as it is
            have hsame : cs.take off ++ (ys.take 0 ++ cs.drop (off + min ys.length 0)) = cs := by simp
            rw [hsame] at hz
            have hobj : ∀ us', RepC ⟨β, H, F⟩ w z us' → RepC ⟨β, H, F⟩ w z' us' := fun us' hu => by
              obtain ⟨a1, m1, b1, e1, e2, e3⟩ := getP_spec hu hg
              have hr2 := e3
              rw [RepC] at hr2
              obtain ⟨a2, m2, b2, f1, f2, f3, f4, _⟩ := setP_spec hu hz e3
              have e4 : a1 = a2 := by
                have := congrArg (List.take a1.length) (e1.symm.trans f1)
                rw [List.append_assoc, List.append_assoc, List.take_left] at this
                rw [this, List.take_left' (by omega)]
              subst e4
              have e5 := e1.symm.trans f1
              rw [List.append_assoc, List.append_assoc] at e5
              have e6 := List.append_cancel_left e5
              have e7 : m1 = m2 := by
                have := congrArg (List.take m1.length) e6
                rw [List.take_left] at this
                rw [this, List.take_left' (by omega)]
              subst e7
              have e8 := List.append_cancel_left e6
              subst e8
              rw [e1]; exact f4
            have hid' : id < H.length := (List.getElem?_eq_some_iff.1 hid).1
            obtain ⟨k1, k2⟩ := hs.turn (o' := .obj vr z') (w' := w) (β' := β) hid rfl rfl (Nat.le_refl _) (fun _ _ _ => rfl) (fun b off e => .inl ⟨off, e⟩) rfl rfl rfl (Nat.le_refl _) (fun _ _ => rfl) (fun _ _ _ => rfl) (fun hm => by
              rcases hs.ob id _ hid with ⟨r0, r1⟩ | ⟨b, off, pre, vs, post, t, fr, r0, r1, r2, r3, r4⟩
              · exact .inl ⟨r0, RepC.mono hm (hobj _ r1)⟩
              · exact .inr ⟨b, off, pre, vs, post, t, fr, r0, r1, r2, r3, RepC.mono hm (hobj _ r4)⟩)
            refine ⟨_, w, β, _, _, hrun ad 0 w hv' (fun vs hvs => ?_), k1, k2, Rep.of_val, h⟩
            have : vs = [] := by rw [hvs]; simp
            subst this
            cases ad <;> rfl
          · have hv' : v = .slice (some ⟨b, o + span p + off * k'', none⟩) n cap := by simpa using hv
            obtain ⟨cells, hcr, hca⟩ := part_at hs hid hbo hg
            have hcr0 := hcr
            rw [RepC] at hcr
            obtain ⟨e1, e2, hcr⟩ := hcr
            -- the array's cells, cut
            have hcut : cs = cs.take off ++ ((cs.drop off).take (min ys.length n) ++ cs.drop (off + min ys.length n)) := by
              rw [show cs.drop (off + min ys.length n) = (cs.drop off).drop (min ys.length n) from by rw [List.drop_drop], List.take_append_drop, List.take_append_drop]
            rw [hcut] at hcr
            obtain ⟨ca, cm, rfl, c1, c2⟩ := RepCs.split hcr
            obtain ⟨cb, cc, rfl, c3, c4⟩ := RepCs.split c2
            have hyt : RepCs (Ctx.bare ⟨β, H, F⟩) w (ys.take n) (us.take (min ys.length n * k'')) := by
              have hys : ys = ys.take n ++ ys.drop n := (List.take_append_drop _ _).symm
              rw [hys] at hy
              obtain ⟨u1, u2, hu12, d1, d2⟩ := RepCs.split hy
              have hl1 : u1.length = min ys.length n * k'' := by rw [d1.length, widths_all (fun y hy => hyk y (List.mem_of_mem_take hy)), List.length_take, Nat.min_comm]
              rw [hu12, ← hl1, List.take_left]; exact d1
            have hcal : ca.length = off * k'' := by rw [c1.length, widths_all (fun y hy => e2 y (List.mem_of_mem_take hy)), List.length_take]; congr 1; omega
            have hcbl : cb.length = min ys.length n * k'' := by rw [c3.length, widths_all (fun y hy => e2 y (List.mem_of_mem_drop (List.mem_of_mem_take hy))), List.length_take, List.length_drop]; congr 1; omega
            have hul : (us.take (min ys.length n * k'')).length = min ys.length n * k'' := by rw [hyt.length, widths_all (fun y hy => hyk y (List.mem_of_mem_take hy)), List.length_take, Nat.min_comm]
            have hnewr : RepC ⟨β, H, F⟩ w (.arr N k'' (cs.take off ++ (ys.take n ++ cs.drop (off + min ys.length n)))) (ca ++ (us.take (min ys.length n * k'') ++ cc)) := by
              rw [RepC]
              refine ⟨by rw [← e1]; simp only [List.length_append, List.length_take, List.length_drop]; omega, fun q hq => ?_, RepCs.append c1 (RepCs.append hyt c4)⟩
              rcases List.mem_append.1 hq with hq | hq
              · exact e2 q (List.mem_of_mem_take hq)
              · rcases List.mem_append.1 hq with hq | hq
                · exact hyk q (List.mem_of_mem_take hq)
                · exact e2 q (List.mem_of_mem_drop hq)
            obtain ⟨k1, k2, k3⟩ := hs.store hid hbo hz hnewr
            -- what is stored is the middle alone
            have hA : CellsAt w b (o + span p) ca := fun j u hj => hca j u (by rw [List.getElem?_append_left (List.getElem?_eq_some_iff.1 hj).1]; exact hj)
            have hC : CellsAt w b (o + span p + ca.length + (us.take (min ys.length n * k'')).length) cc := by
              intro j u hj
              have := hca (ca.length + (cb.length + j)) u (by
                rw [List.getElem?_append_right (by omega), show ca.length + (cb.length + j) - ca.length = cb.length + j from by omega, List.getElem?_append_right (by omega), show cb.length + j - cb.length = j from by omega]; exact hj)
              rw [hul, ← hcbl]
              rw [show o + span p + ca.length + cb.length + j = o + span p + (ca.length + (cb.length + j)) from by omega]; exact this
            have hw' : w.setCells b (o + span p) (ca ++ (us.take (min ys.length n * k'') ++ cc)) = w.setCells b (o + span p + off * k'') (us.take (min ys.length n * k'')) := by
              rw [setCells_append, setCells_append, setCells_self hA, hcal]
              rw [hcal] at hC
              exact setCells_self (cellsAt_setCells hC (Nat.le_refl _))
            rw [hw'] at k1 k2
            have hsub : w.there b (o + span p + off * k'') (us.take (min ys.length n * k'')).length := by
              intro j hj
              have := k3 (ca.length + j) (by simp only [List.length_append]; omega)
              rw [show o + span p + (ca.length + j) = o + span p + off * k'' + j from by omega] at this
              exact this
            refine ⟨_, _, β, _, _, hrun _ cap _ hv' (fun vs hvs => ?_), k1, k2, Rep.of_val, h⟩
            have hvs' : vs = us.take (min ys.length n * k'') := hvs
            subst hvs'
            have := run_storeCells_cells (P := P) b (o + span p + off * k'') (us.take (min ys.length n * k'')) 0 w (fun j hj => by simpa using (hsub j hj).1) (fun j hj => by simpa using (hsub j hj).2) hyt.one
            simpa using this
        · exact h.elim
      · exact h.elim
    · exact h.elim
  · exact h.elim

theorem Reads.first {w : World} {us : List Value} {n k : Nat} {v : Value} (h : Reads w us n k v) (m : Nat) (hm : m ≤ n) : (Builtin.lenOf v).run P w = .ok n w ∧ (Builtin.firstCells k m v).run P w = .ok (us.take (m * k)).toArray w := by
  cases h with
  | mem b off cap hc hl hn hcap =>
    have hle : m * k ≤ n * k := Nat.mul_le_mul_right _ hm
    refine ⟨rfl, ?_⟩
    have := run_loadCells_list (P := P) w ⟨b, off, Option.none⟩ (us.take (m * k)) (fun j u hj => by
      rw [addr_add]
      refine hc j u ?_
      rw [List.getElem?_take] at hj
      split at hj
      · exact hj
      · cases hj)
    rw [List.length_take, Nat.min_eq_left (by omega)] at this
    simpa [Builtin.firstCells] using this
  | none a cap hn hu hcap =>
    have hm0 : m = 0 := by omega
    subst hm0; subst hn; subst hu
    refine ⟨rfl, ?_⟩
    cases a with
    | none => simp [Builtin.firstCells]
    | some ad => simp [Builtin.firstCells, loadCells, loadCellsFrom]

theorem d_copy (hs : Sim ⟨β, H, F⟩ w) (he : EnvOk ⟨β, H, F⟩ w e a) {t tx et : TypeId} {k : Nat} (h0 : sliceOf P t = some (k, et)) {x y : Operand} (h : sop P (.copy k (trO x) (trO y)) e H K) :
    Does P β H F w a K (.call { callee := .builtin .copy, args := [x, y].toArray, argTypes := [t, tx].toArray }) := by
  simp only [sop] at h
  split at h
  · rename_i ys hys
    obtain ⟨hyk, us, hus, hrd⟩ := elemsOf_spec hs (he.ev y) hys
    intro o KK Q ho hnd hk
    refine OW.of_wp (by rw [ho]; exact hnd) ?_
    obtain ⟨v', w', β', H', x', r1, r2, r3, r4, r5⟩ := copy_sound (P := P) (tx := tx) (ty := o.type) hs (he.ev x) h0 hus hyk (hrd.first 0 (Nat.zero_le _)).1 (fun n hn => (hrd.first n hn).2) h
    unfold Oper.wp
    simp only [execOp, ho, resolve, invoke, builtin, Sem.run_bind, Sem.run_pure, Result.andThen_ok, List.map_toArray, List.map_cons, List.map_nil, r1]
    exact hk _ _ _ _ _ _ r5 r2 r3 r4
  · exact h.elim

theorem d_copyS (hs : Sim ⟨β, H, F⟩ w) (he : EnvOk ⟨β, H, F⟩ w e a) {t tx et : TypeId} (h0 : sliceOf P t = some (1, et)) {x y : Operand} (h : sop P (.copyS (trO x) (trO y)) e H K) :
    Does P β H F w a K (.call { callee := .builtin .copy, args := [x, y].toArray, argTypes := [t, tx].toArray }) := by
  simp only [sop] at h
  split at h
  · rename_i s hy
    have hlen : ((bl s).map by8).length = s.size := by simp [bl]
    have hl : (Builtin.lenOf (a.eval y)).run P w = .ok ((bl s).map by8).length w := by rw [he.val hy, hlen]; rfl
    intro o KK Q ho hnd hk
    refine OW.of_wp (by rw [ho]; exact hnd) ?_
    obtain ⟨v', w', β', H', x', r1, r2, r3, r4, r5⟩ := copy_sound (P := P) (tx := tx) (ty := o.type) hs (he.ev x) h0 (repCs_bytes (bl s)) (by simp [width]) hl (fun n hn => by
      rw [he.val hy]
      simp only [Builtin.firstCells, Sem.run_pure]
      congr 1
      apply Array.ext'
      simp [bl, List.extract_eq_take_drop]) h
    unfold Oper.wp
    simp only [execOp, ho, resolve, invoke, builtin, Sem.run_bind, Sem.run_pure, Result.andThen_ok, List.map_toArray, List.map_cons, List.map_nil, r1]
    exact hk _ _ _ _ _ _ r5 r2 r3 r4
  · exact h.elim

theorem callFunc_go {f : FuncId} {args : Array Value} (hg : isGo P f = true) : (callFunc f args).run P w = .ok (.enter f args) w := by
  unfold isGo at hg
  split at hg
  · rename_i fn hfn
    rw [Bool.and_eq_true] at hg
    have hb : fn.body.isNone = false := by
      cases hb : fn.body with
      | none => rw [hb] at hg; simp at hg
      | some c => rfl
    have hn : (fn.name == "runtime.NumGoroutine") = false := by simpa using hg.2
    unfold callFunc
    rw [Sem.run_bind, run_program]
    simp only [Result.andThen_ok, hfn, hn, hb, Bool.false_eq_true, if_false]
    rfl
  · cases hg

theorem enter_sound {f : FuncId} {args : List TV} {vs : List Value} (hs : Sim ⟨β, H, F⟩ w) (hv : RepL ⟨β, H, F⟩ w args vs) (h : VCalls P f args H K) {o : Oper} {KK : Act → World → Prop} {Q : Exit → Act → World → Prop}
    (hk : ∀ x H' β' F' w' v, K x H' → Sim ⟨β', H', F'⟩ w' → Later ⟨β, H, F⟩ w ⟨β', H', F'⟩ w' → Rep ⟨β', H', F'⟩ w' x v → KK (a.put o.dst v) w') : o.upon P a KK Q (.ok (.enter f vs.toArray) w) := by
  rw [Oper.upon_enter]
  refine (h β F w vs hs hv).mono ?_
  rintro _ w' ⟨v, x, β', H', F', rfl, h1, h2, h3, h4⟩
  exact hk _ _ _ _ _ _ h1 h2 h3 h4

theorem d_call (hs : Sim ⟨β, H, F⟩ w) (he : EnvOk ⟨β, H, F⟩ w e a) {f : FuncId} (hg : isGo P f = true) {args : List Operand} {ts : Array TypeId} (h : sop P (.call f (args.map trO)) e H K) : Does P β H F w a K (.call { callee := .value (.func f), args := args.toArray, argTypes := ts }) := by
  simp only [sop] at h
  obtain ⟨ht, h⟩ := h
  have hv := repL_map he args fun x hx => ht _ (List.mem_map_of_mem hx)
  intro o KK Q ho hnd hk
  refine OW.of_wp (by rw [ho]; exact hnd) ?_
  have := enter_sound (a := a) (o := o) (KK := KK) (Q := Q) hs hv h hk
  unfold Oper.wp
  simp only [execOp, ho, resolve, Act.eval, Deferred.ofValue, Sem.run_bind, Sem.run_pure, Result.andThen_ok, invoke, callFunc_go hg]
  simpa using this

theorem rowOf_spec {H : List Ob} {t : TV} {j v : Nat} {l : List UInt8} (h : rowOf H t = some (j, v, l)) : ∃ id ver p x a cp, t = .op id ver p ∧ H[id]? = some (.obj ver x) ∧ getP p x = some (.agg [a, .os 1 j v [] 0 l.length cp]) ∧ width a = 1 ∧ H[j]? = some (.bld v byteTy l) := by
  unfold rowOf at h
  split at h
  · rename_i id ver p
    split at h
    · rename_i v0 y hid
      split at h
      · rename_i hv
        split at h
        · rename_i a j0 v2 n cp hg
          split at h
          · rename_i v3 t l0 hj
            split at h
            · rename_i hc
              obtain ⟨rfl, rfl, rfl, hw⟩ := hc
              cases h
              subst hv
              exact ⟨id, _, p, y, a, cp, rfl, hid, hg, hw, hj⟩
            · cases h
          · cases h
        · cases h
      · cases h
    · cases h
  · cases h
theorem d_bstr (hs : Sim ⟨β, H, F⟩ w) (he : EnvOk ⟨β, H, F⟩ w e a) {f : FuncId} (hg : isGo P f = true) {x : Operand} {ts : Array TypeId} (h : sop P (.bstr f (trO x)) e H K) : Does P β H F w a K (.call { callee := .value (.func f), args := [x].toArray, argTypes := ts }) := by
  refine d_call (args := [x]) hs he hg ?_
  simp only [sop] at h
  obtain ⟨hB, h⟩ := h
  split at h
  · rename_i j v l hr
    obtain ⟨id, ver, p, y, a0, cp, h1, h2, h3, h4, h5⟩ := rowOf_spec hr
    show (∀ z ∈ [trO x], isTup (z.ev e) = false) ∧ VCalls P f [(trO x).ev e] H K
    rw [h1]
    refine ⟨fun z hz => ?_, hB id ver j v cp p y a0 l H K h2 h3 h4 h5 h.1 h.2⟩
    rw [List.mem_singleton] at hz; subst hz; rw [h1]; rfl
  · exact h.elim

theorem RepL.append {c : Ctx} {w : World} : ∀ {xs ys : List TV} {us vs : List Value}, RepL c w xs us → RepL c w ys vs → RepL c w (xs ++ ys) (us ++ vs)
  | [], ys, us, vs, h, k => by rw [RepL.nil] at h; subst h; exact k
  | x :: xs, ys, us, vs, h, k => by
    obtain ⟨u, us', rfl, h1, h2⟩ := RepL.cons.1 h
    exact RepL.cons.2 ⟨u, us' ++ vs, rfl, h1, RepL.append h2 k⟩

theorem d_callv (hs : Sim ⟨β, H, F⟩ w) (he : EnvOk ⟨β, H, F⟩ w e a) {t : Nat} {args : List Operand} {ts : Array TypeId} (h : sop P (.callv (.t t) (args.map trO)) e H K) : Does P β H F w a K (.call { callee := .value (.tmp t), args := args.toArray, argTypes := ts }) := by
  simp only [sop] at h
  obtain ⟨ht, h⟩ := h
  have hv := repL_map he args fun x hx => ht _ (List.mem_map_of_mem hx)
  split at h
  · rename_i f first caps hx
    obtain ⟨hg, h⟩ := h
    have hr : Rep ⟨β, H, F⟩ w (.fn (.func f) first caps) (a.eval (.tmp t)) := he.rep (x := .tmp t) hx
    have h1 := hr.inv1 (by simp) (by simp) (by simp) (by simp) (by simp)
    rw [RepC] at h1
    obtain ⟨us, vs, hv1, hf, hc⟩ := h1
    have hv' : a.eval (.tmp t) = .func (.func f) us.toArray vs.toArray := by simpa using hv1
    intro o KK Q ho hnd hk
    refine OW.of_wp (by rw [ho]; exact hnd) ?_
    have := enter_sound (a := a) (o := o) (KK := KK) (Q := Q) hs (RepL.append (RepL.append hf hv) hc) h hk
    unfold Oper.wp
    simp only [execOp, ho, resolve, hv', Deferred.ofValue, Sem.run_bind, Sem.run_pure, Result.andThen_ok, invoke, callFunc_go hg]
    simpa using this
  · rename_i f xs ys hx
    obtain ⟨hxy, hg, h⟩ := h
    rw [Bool.and_eq_true, Array.isEmpty_iff, Array.isEmpty_iff] at hxy
    obtain ⟨rfl, rfl⟩ := hxy
    have hv' : a.eval (.tmp t) = .func (.func f) #[] #[] := he.val (x := .tmp t) hx
    intro o KK Q ho hnd hk
    refine OW.of_wp (by rw [ho]; exact hnd) ?_
    have := enter_sound (a := a) (o := o) (KK := KK) (Q := Q) hs hv h hk
    unfold Oper.wp
    simp only [execOp, ho, resolve, hv', Deferred.ofValue, Sem.run_bind, Sem.run_pure, Result.andThen_ok, invoke, callFunc_go hg]
    simpa using this
  · rename_i id ver hx
    have hr : Rep ⟨β, H, F⟩ w (.yl id ver) (a.eval (.tmp t)) := he.rep (x := .tmp t) hx
    have h1 := hr.inv1 (by simp) (by simp) (by simp) (by simp) (by simp)
    rw [RepC] at h1
    obtain ⟨_, b, off, hb, hv1⟩ := h1
    have hv' : a.eval (.tmp t) = .func (.yield b) #[] #[] := by simpa using hv1
    intro o KK Q ho hnd hk ro n
    obtain ⟨fn, tmps, as, bd, hy, hR⟩ := h β F w _ b off hs hv hb (n - 1)
    refine ⟨fun _ _ => trivial, ?_⟩
    rw [show (fz ro).round = ro from rfl, Oper.semAt_eq ro a.eval o (by rw [ho]; exact hnd)]
    have hrun : (execOp a.eval o).run P w = .ok (.round b fn tmps as bd) w := by
      simp only [execOp, ho, resolve, hv', Deferred.ofValue, Sem.run_bind, Sem.run_pure, Result.andThen_ok, invoke]
      simpa [go_sem] using hy
    rw [hrun, Oper.uponIn_round]
    refine ⟨fun h => by simp [fz, Fence.wide] at h, RoundIn.mono (hR : RoundIn (fz ro) (n - 1) P b fn tmps as bd w _) ?_⟩
    rintro _ w' ⟨v, x, β', H', F', rfl, k1, k2, k3, k4⟩
    exact hk _ _ _ _ _ _ k1 k2 k3 k4
  · exact h.elim

theorem d_bslice (hs : Sim ⟨β, H, F⟩ w) (he : EnvOk ⟨β, H, F⟩ w e a) {t et : TypeId} {k n : Nat} {i : TypeInfo} {z : Value} {x : TV} (h0 : sliceOf P t = some (k, et)) (h1 : P.info? et = some i) (h2 : i.zero = some z) (h3 : z.cells.size = k ∧ k ≠ 0 ∧ n * k ≤ 16777216) (h4 : zT P 400 et z.cells.toList = some x)
    {ps : Array (Nat × Operand)} (h : sop P (.bslice k n x (ps.toList.map fun q => (q.1, trO q.2))) e H K) : Does P β H F w a K (.buildSlice t n ps) := by
  obtain ⟨g1, g2⟩ := sliceOf_spec h0
  obtain ⟨hz, hzp⟩ := zT_spec (c := ⟨β, H, F⟩) (w := w) h4
  simp only [sop] at h
  obtain ⟨⟨hok, hpure, hn⟩, h⟩ := h
  have hm := made_rep hz (by rw [h3.1]; exact h3.2.1) n
  have hx : width x = k := by rw [← hz.length]; simpa using h3.1
  have hplace : ∀ i k', (List.replicate n k)[i]? = some k' → (fun i => some (i * k, k)) i = some (((List.replicate n k).take i).sum, k') := by
    intro i k' h
    rw [List.getElem?_replicate] at h
    split at h
    · rename_i hi; cases h
      simp only [List.take_replicate, List.sum_replicate_nat]
      rw [Nat.min_eq_left (by omega)]
    · cases h
  let av : Opd → Value := fun x => match x with | .t n => a.tmps.getD n undef | .c v => v | .g n => .pointer (some ⟨n, 0, none⟩)
  have hav : ∀ x : Opd, Rep ⟨β, H, F⟩ w (x.ev e) (av x) := by
    intro x; cases x with
    | t n => exact he.1 n
    | c v => exact Rep.of_val
    | g n => exact he.ev (.global n)
  have hav2 : ∀ x : Operand, av (trO x) = a.eval x := by intro x; cases x <;> rfl
  obtain ⟨us', k1, k2, k3⟩ := fill_spec hav hplace (ps.toList.map fun q => (q.1, trO q.2)) (List.replicate n x) (madeCells z.cells (n * z.cells.size)).toList (by simp [hx]) hm hok
  have hfl : ∀ (qs : List (Nat × Opd)) (l : List TV), pureL l = true → fillsPure e qs → pureL (fills e l qs) = true := by
    intro qs
    induction qs with
    | nil => intro l hl _; exact hl
    | cons q qs ih =>
      obtain ⟨i, x⟩ := q
      intro l hl hp
      rw [fillsPure] at hp
      refine ih _ ?_ hp.2
      have hs : ∀ (l : List TV) (i : Nat), pureL l = true → pureL (l.set i (x.ev e)) = true := by
        intro l
        induction l with
        | nil => intro i h; simpa using h
        | cons y l ihl =>
          intro i h
          rw [pureL, Bool.and_eq_true] at h
          cases i with
          | zero => rw [List.set_cons_zero, pureL, hp.1, h.2]; rfl
          | succ i => rw [List.set_cons_succ, pureL, h.1, ihl i h.2]; rfl
      exact hs l i hl
  have hrp : ∀ n, pureL (List.replicate n x) = true := by
    intro n; induction n with
    | zero => rfl
    | succ n ih => rw [List.replicate_succ, pureL, hzp, ih]; rfl
  have hparts : ((ps.toList.map fun q => (q.1, trO q.2)).map fun q => (q.1, av q.2)) = ps.toList.map fun q => (q.1, a.eval q.2) := by simp [hav2]
  rw [hparts, Array.toArray_toList] at k1
  have hlen : (fills e (List.replicate n x) (ps.toList.map fun q => (q.1, trO q.2))).length = n := by
    have := congrArg List.length k3
    simpa using this
  have hrow : RepC ⟨β, H, F⟩ w (.arr n k (fills e (List.replicate n x) (ps.toList.map fun q => (q.1, trO q.2)))) us' := by
    rw [RepC]
    refine ⟨hlen, fun y hy => ?_, RepCs.pure (hfl _ _ (hrp n) hpure) k2⟩
    have : width y ∈ (fills e (List.replicate n x) (ps.toList.map fun q => (q.1, trO q.2))).map width := List.mem_map_of_mem hy
    rw [k3] at this
    exact List.eq_of_mem_replicate this
  obtain ⟨q1, q2⟩ := hs.newObj (post := []) hrow et (0, 0) (bare0 _)
  refine Does.mk (s := fun _ => Instr.buildSlice t n (ps.map fun (i, x) => (i, a.eval x))) (v := .slice (some ⟨w.heap.size, 0, none⟩) n n) (fun o ho => by simp only [execOp, ho]) (fun o => ?_) q1 q2 (rep_new_row (w := w) (N := 0) rfl (by omega) (Nat.le_refl _) (Nat.le_refl _) (by rw [List.append_nil, hrow.length, width]; exact Nat.le_refl _) (w0 := w) rfl) h
  have hns : ¬ (16777216 < n * k) := by omega
  have hmk : (Array.range (n * k)).map (fun x => z.cells[x % z.cells.size]!) = madeCells z.cells (n * k) := rfl
  have hzv : (zeroValue et).run P w = .ok z w := by simp [zeroValue, typeInfo, h1, h2]
  rw [h3.1] at k1
  have hpl2 : (ps.map fun (i, x) => (i, a.eval x)).toList = ps.toList.map fun q => (q.1, a.eval q.2) := by rw [Array.toList_map]
  have k1' : Instr.fill (fun i => some (i * k, k)) (madeCells z.cells (n * k)) (ps.map fun (i, x) => (i, a.eval x)).toList = some us'.toArray := by rw [hpl2]; exact k1
  simp only [Instr.buildSlice, Sem.run_bind, run_underlying g1, Result.andThen_ok, run_szOf g2]
  rw [Sem.run_ite, if_neg (by simpa using hns)]
  by_cases hn0 : n * k = 0
  · have hmk0 : madeCells z.cells (n * k) = #[] := by rw [hn0]; simp [madeCells]
    rw [hmk0] at k1'
    simp only [hn0, if_true, Sem.run_bind, Sem.run_pure, Result.andThen_ok]
    have he0 : (Array.range 0).map (fun x => (#[] : Array Value)[x % (#[] : Array Value).size]!) = #[] := by simp
    rw [he0, k1']
    simp [newRow, newObj, Sem.run]
  · simp only [hn0, if_false, Sem.run_bind, hzv, Sem.run_pure, Result.andThen_ok]
    rw [hmk, k1']
    simp [newRow, newObj, Sem.run]

/-- WHAT MAKES OR WRITES DOES WHAT THE MACHINE OF VALUES SAYS. -/
theorem sop_sound (hs : Sim ⟨β, H, F⟩ w) (he : EnvOk ⟨β, H, F⟩ w e a) {op : Op} {so : SOp} (ht : trS P op = some so) (h : sop P so e H K) : Does P β H F w a K op := by
  cases op with
  | alloc t =>
    simp only [trS] at ht
    split at ht
    · rename_i i h1; split at ht
      · rename_i z h2
        obtain ⟨x, h3, e9⟩ := Option.map_eq_some_iff.1 ht
        split at e9
        · subst e9; exact d_allocT hs h1 h2 h3 h
        · subst e9; exact d_alloc hs h1 h2 h3 h
      · cases ht
    · cases ht
  | box t x =>
    simp only [trS, Option.some.injEq] at ht
    split at ht
    · subst ht; exact d_boxT hs he h
    · subst ht; exact d_box hs he h
  | buildSlice t n ps =>
    simp only [trS] at ht
    split at ht
    · rename_i k et h0; split at ht
      · rename_i i h1; split at ht
        · rename_i z h2; split at ht
          · rename_i h3; obtain ⟨x, h4, rfl⟩ := Option.map_eq_some_iff.1 ht; exact d_bslice hs he h0 h1 h2 h3 h4 h
          · cases ht
        · cases ht
      · cases ht
    · cases ht
  | store t x y =>
    simp only [trS] at ht
    obtain ⟨sz, h2, rfl⟩ := Option.map_eq_some_iff.1 ht
    exact d_store hs he h2 h
  | makeSlice t l c =>
    simp only [trS] at ht
    split at ht
    · rename_i k et h0; split at ht
      · rename_i i h1; split at ht
        · rename_i z h2; split at ht
          · rename_i h3; obtain ⟨x, h4, rfl⟩ := Option.map_eq_some_iff.1 ht; exact d_mks hs he h0 h1 h2 h3 h4 h
          · cases ht
        · cases ht
      · cases ht
    · cases ht
  | makeMap t r =>
    simp only [trS] at ht
    split at ht
    · rename_i kt et h1; obtain ⟨kk, h2, rfl⟩ := Option.map_eq_some_iff.1 ht; exact d_mkm hs he h1 h
    · cases ht
  | mapUpdate t m k x =>
    simp only [trS] at ht
    split at ht
    · rename_i kt et h1; obtain ⟨kk, h2, rfl⟩ := Option.map_eq_some_iff.1 ht; exact d_mupd hs he h1 h2 h
    · cases ht
  | mapEntry t m k =>
    simp only [trS] at ht
    split at ht
    · rename_i h1; cases ht; exact d_ment hs he h1 h
    · cases ht
  | entryStore t m st x => simp only [trS, Option.some.injEq] at ht; subst ht; exact d_mest hs he h
  | convert src dst x =>
    simp only [trS] at ht
    split at ht
    · rename_i h1; cases ht; exact d_s2b hs he h1 h
    · cases ht
  | call cl =>
    obtain ⟨callee, args, ts⟩ := cl
    obtain ⟨args⟩ := args
    obtain ⟨ts⟩ := ts
    cases callee with
    | invoke f m => simp [trS] at ht
    | value f =>
      cases f with
      | func f =>
        simp only [trS] at ht
        split at ht
        · rename_i hg
          split at ht
          · split at ht
            · cases ht; exact d_bstr hs he hg h
            · cases ht; exact d_call (args := [_]) hs he hg h
          · cases ht; exact d_call hs he hg h
        · cases ht
      | tmp t => simp only [trS, Option.some.injEq] at ht; subst ht; exact d_callv hs he h
      | const v => simp [trS] at ht
      | global g => simp [trS] at ht
    | builtin b =>
      cases b with
      | append =>
        rcases args with _ | ⟨x, _ | ⟨y, _ | ⟨z, args⟩⟩⟩ <;> rcases ts with _ | ⟨t, _ | ⟨tx, _ | ⟨t', ts⟩⟩⟩ <;> simp only [trS] at ht <;> first | (cases ht; done) | skip
        split at ht
        · rename_i k et h0; split at ht
          · rename_i i h1; split at ht
            · rename_i z h2; split at ht
              · rename_i h3; split at ht
                · rename_i h4; split at ht
                  · rename_i h5; obtain ⟨rfl, h5⟩ := h5; cases ht; exact d_appS hs he h0 h1 h2 h3 h5 h4 h
                  · cases ht
                · split at ht
                  · rename_i h4; cases ht; exact d_app hs he h0 h1 h2 h3 h4 h
                  · cases ht
              · cases ht
            · cases ht
          · cases ht
        · cases ht
      | copy =>
        rcases args with _ | ⟨x, _ | ⟨y, _ | ⟨z, args⟩⟩⟩ <;> rcases ts with _ | ⟨t, _ | ⟨tx, _ | ⟨t', ts⟩⟩⟩ <;> simp only [trS] at ht <;> first | (cases ht; done) | skip
        split at ht
        · rename_i k et h0; split at ht
          · split at ht
            · rename_i hk; subst hk; cases ht; exact d_copyS hs he h0 h
            · cases ht
          · split at ht
            · cases ht; exact d_copy hs he h0 h
            · cases ht
        · cases ht
      | _ => simp [trS] at ht
  | _ => simp [trS] at ht

end sound
end Go.Proofs.Ytknphdcjopaaoaa
