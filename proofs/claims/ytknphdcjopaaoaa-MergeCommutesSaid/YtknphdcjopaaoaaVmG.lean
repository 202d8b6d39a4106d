/- From the model's operations to those of the machine of values; what the latter say, the former do. No program in sight. -/
import Derived.Test.YtknphdcjopaaoaaVmP
namespace Go.Proofs.Ytknphdcjopaaoaa
open Go.RowKit
set_option linter.unusedVariables false
set_option autoImplicit false

def isConstNil : Operand → Bool
  | .const .nilIface => true
  | _ => false
def isNeq : BinOp → Bool
  | .neq => true
  | _ => false
def isEq : BinOp → Bool
  | .neq => true
  | .eql => true
  | _ => false
/-- The sums of the numbers ahead. -/
def sumsOf : Nat → List Nat → List Nat
  | _, [] => []
  | s, k :: ks => s :: sumsOf (s + k) ks
def fieldAt? (P : Program) (t : TypeId) (f : Nat) : Option (Nat × TypeId) := match P.underlying t with
  | some (.struct fs) => (fs[f]?).map fun x => (x.offset, x.type)
  | _ => none
/-- A struct's sizes and offsets fit each other. -/
def structOf (P : Program) (t : TypeId) : Option (List Nat × List TV) := match P.underlying t, P.info? t with
  | some (.struct fs), some it => (match it.zero, fs.toList.mapM (fun f => szOf P f.type) with
    | some z, some szs => if fs.toList.map (·.offset) = sumsOf 0 szs then (match zF P 400 (fs.toList.map (·.type)) z.cells.toList with
      | some zs => if zs.map width = szs then some (szs, zs) else none
      | none => none) else none
    | _, _ => none)
  | _, _ => none
def arrayOf (P : Program) (t : TypeId) : Option (Nat × Nat × TypeId) := match P.underlying t with
  | some (.array n e) => (szOf P e).map fun k => (n, k, e)
  | _ => none
def arrayZ (P : Program) (t : TypeId) : Option (Nat × Nat × List TV) := match P.underlying t, P.info? t with
  | some (.array n e), some it => (match it.zero, szOf P e with
    | some z, some k => (zA P 400 e k n z.cells.toList).map fun zs => (n, k, zs)
    | _, _ => none)
  | _, _ => none
def sliceOf (P : Program) (t : TypeId) : Option (Nat × TypeId) := match P.underlying t with
  | some (.slice e) => (szOf P e).map fun k => (k, e)
  | _ => none
def isStr (P : Program) (t : TypeId) : Bool := match P.underlying t with
  | some .string => true
  | _ => false
def isU8s (P : Program) (t : TypeId) : Bool := match P.underlying t with
  | some (.slice e) => (match P.underlying e with | some (.int .u8) => true | _ => false)
  | _ => false

/-- The zero value is what its reading says. -/
def zOk (z : Value) (x : TV) : Bool := match z with
  | .agg _ => isAg x
  | .tuple _ => false
  | _ => !isAg x
/-- Which keys a map has, and the zero value of its elements. -/
def mapOf (P : Program) (t : TypeId) : Option (TypeId × MK × Value × TV) := match P.underlying t with
  | some (.map kt e) => (match keyK P kt, P.info? e with
    | some kk, some i => (match i.zero with
      | some z => (match zT P 400 e z.cells.toList with
        | some x => if zOk z x then some (kt, kk, z, x) else none
        | none => none)
      | none => none)
    | _, _ => none)
  | _ => none
def isMap (P : Program) (t : TypeId) : Bool := match P.underlying t with
  | some (.map _ _) => true
  | _ => false
/-- The translation of what makes nothing. -/
def trP (P : Program) : Op → Option POp
  | .move x => some (.mov (trO x))
  | .assign x => some (.mov (trO x))
  | .pick c a b => some (.pick (trO c) (trO a) (trO b))
  | .binOp op t x y _ => match P.underlying t with
    | some (.int _) | some .string => some (.bin t op (trO x) (trO y))
    | some .bool => if isEq op then some (.eqB (trO x) (trO y) (isNeq op)) else none
    | some (.pointer _) => if isEq op then some (.eqN 0 (trO x) (trO y) (isNeq op)) else none
    | some (.map _ _) => if isEq op then some (.eqN 2 (trO x) (trO y) (isNeq op)) else none
    | some (.func _ _ _) => if isEq op then some (.eqN 3 (trO x) (trO y) (isNeq op)) else none
    | some (.interface _) => if isEq op && (isConstNil x || isConstNil y) then some (.eqN 1 (trO x) (trO y) (isNeq op)) else none
    | some (.array n e) => if isEq op && byteEl P e && !P.eqGuardType P.depth t then some (.gen (.eqA n (isNeq op)) [trO x, trO y]) else none
    | _ => none
  | .unOp op _ x => some (.un op (trO x))
  | .convert src dst x => match P.underlying src, P.underlying dst with
    | some (.int _), some (.int k) => some (.conv k (trO x))
    | some .string, some .string => some (.s2s (trO x))
    | some (.slice _), some .string => if isU8s P src then some (.b2s (trO x)) else none
    | _, _ => none
  | .load t x => match aggB P t, szOf P t with
    | some ag, some sz => some (.load ag sz (trO x))
    | _, _ => none
  | .fieldAddr s x f => match fieldAt? P s f with
    | some (off, t) => (match szOf P t with | some sz => if sz = 0 then none else some (.fieldA f off (trO x)) | none => none)
    | none => none
  | .field s x f => match fieldAt? P s f with
    | some (off, t) => (match aggB P t, szOf P t with | some ag, some sz => some (.field ag sz f off (trO x)) | _, _ => none)
    | none => none
  | .indexAddr t x i => match sliceOf P t, arrayOf P t with
    | some (k, _), _ => some (.idxA k (trO x) (trO i))
    | none, some (n, k, _) => some (.idxAA n k (trO x) (trO i))
    | _, _ => none
  | .index t x i => match isStr P t, arrayOf P t with
    | true, _ => some (.idxS (trO x) (trO i))
    | false, some (n, k, e) => (match aggB P e with | some ag => some (.idx ag n k (trO x) (trO i)) | none => none)
    | _, _ => none
  | .extract x i => some (.ext i (trO x))
  | .slice t x lo hi none => match isStr P t, sliceOf P t, arrayOf P t with
    | true, _, _ => some (.slS (trO x) (lo.map trO) (hi.map trO))
    | false, some (k, _), _ => some (.slV k (trO x) (lo.map trO) (hi.map trO))
    | false, none, some (n, k, _) => some (.slA n k (trO x) (lo.map trO) (hi.map trO))
    | _, _, _ => none
  | .slice t x lo (some hi) (some mx) => match sliceOf P t with
    | some (k, _) => some (.gen (.sl3 k) [trO x, (lo.map trO).getD (.c (.int .i64 0)), trO hi, trO mx])
    | none => none
  | .lookup t x k ok => match mapOf P t with
    | some (_, kk, _, zx) => some (.gen (.look kk zx ok) [trO x, trO k])
    | none => none
  | .makeInterface t x => match P.underlying t with
    | some (.interface _) => none
    | some _ => some (.iface t (trO x))
    | none => none
  | .makeFunc f first caps => some (.mkf f (first.toList.map trO) (caps.toList.map trO))
  | .nilCheck x => some (.nilc (trO x))
  | .build t ps => match structOf P t, arrayZ P t with
    | some (szs, zs), _ => some (.build zs szs (ps.toList.map fun q => (q.1, trO q.2)))
    | none, some (n, k, zs) => some (.buildA n k zs (ps.toList.map fun q => (q.1, trO q.2)))
    | _, _ => none
  | .call c => match c.callee, c.args.toList, c.argTypes.toList with
    | .builtin .len, [x], [t] => if isStr P t then some (.lenS (trO x)) else if (sliceOf P t).isSome then some (.lenV (trO x)) else if isMap P t then some (.gen .lenM [trO x]) else none
    | .builtin .min, [x, y], _ => some (.min (trO x) (trO y))
    | .builtin .max, [x, y], _ => some (.max (trO x) (trO y))
    | _, _, _ => none
  | _ => none

section sound
variable {P : Program} {c : Ctx} {w : World} {a : Act} {e : Env} {K : TV → Prop}

/-- The operation yields a value that reads as K asks. -/
def Yields (P : Program) (c : Ctx) (w : World) (a : Act) (K : TV → Prop) (op : Op) (ty : TypeId) : Prop :=
  ∀ o : Oper, o.op = op → o.type = ty → ∃ x v, (execOp a.eval o).run P w = .ok (.value v) w ∧ Rep c w x v ∧ K x

theorem Yields.mk {op : Op} {ty : TypeId} {s : Sem Value} {x : TV} {v : Value} (he : ∀ o : Oper, o.op = op → o.type = ty → execOp a.eval o = (do pure (.value (← s)))) (hr : s.run P w = .ok v w) (hx : Rep c w x v) (hk : K x) : Yields P c w a K op ty :=
  fun o ho ht => ⟨x, v, by rw [he o ho ht]; simp [hr], hx, hk⟩

theorem sliceOf_spec {t : TypeId} {k : Nat} {e : TypeId} (h : sliceOf P t = some (k, e)) : P.underlying t = some (.slice e) ∧ szOf P e = some k := by
  unfold sliceOf at h
  split at h
  · rename_i e' he
    obtain ⟨k', hk, h2⟩ := Option.map_eq_some_iff.1 h
    simp only [Prod.mk.injEq] at h2
    obtain ⟨rfl, rfl⟩ := h2
    exact ⟨he, hk⟩
  · cases h
theorem arrayOf_spec {t : TypeId} {n k : Nat} {e : TypeId} (h : arrayOf P t = some (n, k, e)) : P.underlying t = some (.array n e) ∧ szOf P e = some k := by
  unfold arrayOf at h
  split at h
  · rename_i n' e' he
    obtain ⟨k', hk, h2⟩ := Option.map_eq_some_iff.1 h
    simp only [Prod.mk.injEq] at h2
    obtain ⟨rfl, rfl, rfl⟩ := h2
    exact ⟨he, hk⟩
  · cases h
theorem isStr_spec {t : TypeId} (h : isStr P t = true) : P.underlying t = some .string := by
  unfold isStr at h
  split at h
  · assumption
  · cases h
theorem isU8s_spec {t : TypeId} (h : isU8s P t = true) : ∃ e, P.underlying t = some (.slice e) ∧ P.underlying e = some (.int .u8) := by
  unfold isU8s at h
  split at h
  · rename_i e he
    split at h
    · rename_i he2; exact ⟨e, he, he2⟩
    · cases h
  · cases h
theorem fieldAt_spec {t : TypeId} {f off : Nat} {ft : TypeId} (h : fieldAt? P t f = some (off, ft)) : ∃ fs x, P.underlying t = some (.struct fs) ∧ fs[f]? = some x ∧ x.offset = off ∧ x.type = ft := by
  unfold fieldAt? at h
  split at h
  · rename_i fs hfs
    obtain ⟨x, hx, h2⟩ := Option.map_eq_some_iff.1 h
    simp only [Prod.mk.injEq] at h2
    exact ⟨fs, x, hfs, hx, h2.1, h2.2⟩
  · cases h

theorem y_mov (he : EnvOk c w e a) {x : Operand} {ty : TypeId} (h : pop (.mov (trO x)) e c.H K) : Yields P c w a K (.move x) ty :=
  fun o ho _ => ⟨_, a.eval x, by simp [execOp, ho], he.ev x, h⟩
theorem y_asg (he : EnvOk c w e a) {x : Operand} {ty : TypeId} (h : pop (.mov (trO x)) e c.H K) : Yields P c w a K (.assign x) ty :=
  fun o ho _ => ⟨_, a.eval x, by simp [execOp, ho], he.ev x, h⟩

/-- What an operand is where its reading is exact. -/
theorem EnvOk.val (he : EnvOk c w e a) {x : Operand} {v : Value} (h : (trO x).ev e = .val v) : a.eval x = v := by
  have := he.ev x; rw [h, Rep.val] at this; exact this
theorem EnvOk.rep (he : EnvOk c w e a) {x : Operand} {y : TV} (h : (trO x).ev e = y) : Rep c w y (a.eval x) := h ▸ he.ev x

theorem y_pick (he : EnvOk c w e a) {x y z : Operand} {ty : TypeId} (h : pop (.pick (trO x) (trO y) (trO z)) e c.H K) : Yields P c w a K (.pick x y z) ty := by
  simp only [pop] at h
  split at h
  · rename_i t ht
    have hx := he.val ht
    intro o ho _
    refine ⟨_, if t then a.eval y else a.eval z, by simp [execOp, ho, hx, asBool], ?_, h⟩
    cases t <;> exact he.ev _
  · exact h.elim

theorem y_bin (he : EnvOk c w e a) {op : BinOp} {t yt : TypeId} {x y : Operand} {ty : TypeId} (h : pop (.bin t op (trO x) (trO y)) e c.H K) : Yields P c w a K (.binOp op t x y yt) ty := by
  simp only [pop] at h
  split at h
  · rename_i u v hu hv
    obtain ⟨hc, h⟩ := h
    split at h
    · rename_i r hr
      exact Yields.mk (s := do eqGuard op t x y (a.eval x) (a.eval y); binOp op t (a.eval x) (a.eval y)) (fun o ho _ => by simp only [execOp, ho]) (by simp [he.val hu, he.val hv, eqGuard_calm hc, binV_run hr]) Rep.of_val h
    · exact h.elim
  · exact h.elim

theorem y_un (he : EnvOk c w e a) {op : UnOp} {t : TypeId} {x : Operand} {ty : TypeId} (h : pop (.un op (trO x)) e c.H K) : Yields P c w a K (.unOp op t x) ty := by
  simp only [pop] at h
  split at h
  · rename_i u hu
    split at h
    · rename_i r hr
      exact Yields.mk (s := Op.unary op (a.eval x)) (fun o ho _ => by simp only [execOp, ho]) (by rw [he.val hu]; exact unV_run hr) Rep.of_val h
    · exact h.elim
  · exact h.elim

theorem y_conv (he : EnvOk c w e a) {src dst : TypeId} {k k' : IntKind} (h1 : P.underlying src = some (.int k')) (h2 : P.underlying dst = some (.int k)) {x : Operand} {ty : TypeId} (h : pop (.conv k (trO x)) e c.H K) : Yields P c w a K (.convert src dst x) ty := by
  simp only [pop] at h
  split at h
  · rename_i k'' n hu
    exact Yields.mk (s := convert src dst (a.eval x)) (fun o ho _ => by simp only [execOp, ho]) (by rw [he.val hu]; simp [convert, run_underlying h1, run_underlying h2, Conv.intToInt]) Rep.of_val h
  · exact h.elim

theorem y_s2s (he : EnvOk c w e a) {src dst : TypeId} (h1 : P.underlying src = some .string) (h2 : P.underlying dst = some .string) {x : Operand} {ty : TypeId} (h : pop (.s2s (trO x)) e c.H K) : Yields P c w a K (.convert src dst x) ty := by
  simp only [pop] at h
  split at h
  · rename_i s hu
    exact Yields.mk (s := convert src dst (a.eval x)) (fun o ho _ => by simp only [execOp, ho]) (by rw [he.val hu]; simp [convert, run_underlying h1, run_underlying h2]) Rep.of_val h
  · exact h.elim

theorem bytes_of {c : Ctx} {w : World} : ∀ {cs : List TV} {us : List Value}, (∀ y ∈ cs, isBy y) → RepCs c w cs us → us = (cs.map unby).map fun b : UInt8 => Value.int .u8 b.toNat
  | [], us, _, h => by rw [RepCs] at h; subst h; rfl
  | x :: cs, us, hb, h => by
    rw [RepCs] at h
    obtain ⟨m, b, rfl, h1, h2⟩ := h
    obtain ⟨v, rfl⟩ := hb x (by simp)
    rw [RepC] at h1
    rw [h1.1, bytes_of (fun y hy => hb y (by simp [hy])) h2]
    simp

theorem y_b2s (hs : Sim c w) (he : EnvOk c w e a) {src dst : TypeId} (h1 : isU8s P src = true) (h2 : P.underlying dst = some .string) {x : Operand} {ty : TypeId} (h : pop (.b2s (trO x)) e c.H K) : Yields P c w a K (.convert src dst x) ty := by
  simp only [pop] at h
  split at h
  · rename_i cs hcs
    obtain ⟨hb, h⟩ := h
    obtain ⟨e1, h1a, h1b⟩ := isU8s_spec h1
    obtain ⟨_, us, hus, hrd⟩ := elemsOf_spec hs (he.ev x) hcs
    have hu := bytes_of hb hus
    refine Yields.mk (s := convert src dst (a.eval x)) (fun o ho _ => by simp only [execOp, ho]) (v := .string (str (cs.map unby))) ?_ Rep.of_val h
    generalize a.eval x = v at hrd
    cases hrd with
    | mem b off cap hc hl hn hcap =>
      have hlen : cs.length = (cs.map unby).length := by simp
      rw [hlen]
      refine run_convert_bytes_back w src dst e1 ⟨b, off, none⟩ cap (cs.map unby) h1a h1b h2 fun j hj => ?_
      rw [addr_add]
      refine hc j _ ?_
      rw [hu, List.getElem?_map, List.getElem?_eq_getElem hj]; rfl
    | none ad cap hn h0 hcap =>
      have : cs = [] := List.length_eq_zero_iff.1 hn
      subst this
      cases ad with
      | none => exact run_convert_bytes_nil w src e1 h1a h1b 0 cap dst h2
      | some ad => exact run_convert_bytes_back w src dst e1 ad cap [] h1a h1b h2 (fun j hj => by simp at hj)
  · exact h.elim

theorem y_load (hs : Sim c w) (he : EnvOk c w e a) {t : TypeId} {ag : Bool} {sz : Nat} (h1 : aggB P t = some ag) (h2 : szOf P t = some sz) {x : Operand} {ty : TypeId} (h : pop (.load ag sz (trO x)) e c.H K) : Yields P c w a K (.load t x) ty := by
  simp only [pop] at h
  split at h
  · rename_i y hy
    obtain ⟨hl, h⟩ := h
    obtain ⟨b, off, vs, hv, hF, hr, hc⟩ := (he.rep hy).fp
    exact Yields.mk (s := Instr.loadAt t (a.eval x)) (fun o ho _ => by simp only [execOp, ho]) (by rw [hv]; exact run_load_cells h1 h2 hr hc hl) (Rep.unbare (Rep.of_cells hr)) h
  · rename_i id ver p hy
    split at h
    · rename_i v z hid
      obtain ⟨rfl, h⟩ := h
      split at h
      · rename_i y hg
        obtain ⟨hl, h⟩ := h
        obtain ⟨_, b, o, hb, hv⟩ := (he.rep hy).op
        obtain ⟨us, hr, hc⟩ := part_at hs hid hb hg
        exact Yields.mk (s := Instr.loadAt t (a.eval x)) (fun o ho _ => by simp only [execOp, ho]) (by rw [hv]; exact run_load_cells h1 h2 hr hc hl) (Rep.of_cells hr) h
      · exact h.elim
    · exact h.elim
  · exact h.elim

theorem y_fieldA (he : EnvOk c w e a) {t ft : TypeId} {f off sz : Nat} (h1 : fieldAt? P t f = some (off, ft)) (h2 : szOf P ft = some sz) (h3 : sz ≠ 0) {x : Operand} {ty : TypeId} (h : pop (.fieldA f off (trO x)) e c.H K) : Yields P c w a K (.fieldAddr t x f) ty := by
  obtain ⟨fs, fx, k1, k2, rfl, rfl⟩ := fieldAt_spec h1
  have run : ∀ b o, a.eval x = .pointer (some ⟨b, o, none⟩) → (Instr.fieldAt t (a.eval x) f).run P w = .ok (.pointer (some ⟨b, o + fx.offset, none⟩)) w := fun b o hx => by
    rw [hx]; simp [Instr.fieldAt, run_underlying k1, k2, Instr.sureAddr, fieldPlace, run_szOf h2, h3, addr_add]
  simp only [pop] at h
  split at h
  · rename_i id ver p hy
    obtain ⟨g1, b, o, hb, hv⟩ := (he.rep hy).op
    exact Yields.mk (s := Instr.fieldAt t (a.eval x) f) (fun o ho _ => by simp only [execOp, ho]) (run _ _ hv) (Rep.mk_op g1 hb (by rw [span_append]; simp [span, Nat.add_assoc])) h
  · rename_i cs hy
    obtain ⟨hw, h⟩ := h
    split at h
    · rename_i y hi
      obtain ⟨b, o, vs, hv, hF, hr, hc⟩ := (he.rep hy).fp
      rw [RepC] at hr
      obtain ⟨m1, m2, m3, rfl, e1, e2, _⟩ := comp_at hr hi
      refine Yields.mk (s := Instr.fieldAt t (a.eval x) f) (fun o ho _ => by simp only [execOp, ho]) (run _ _ hv) (Rep.mk_fp rfl hF e2 ?_) h
      intro j u hu
      have hj := (List.getElem?_eq_some_iff.1 hu).1
      have := hc (fx.offset + j) u (by
        rw [← hw, ← e1, List.append_assoc, List.getElem?_append_right (by omega), List.getElem?_append_left (by omega), ← hu]
        congr 1; omega)
      rwa [← Nat.add_assoc] at this
    · exact h.elim
  · exact h.elim

theorem run_part {w : World} {t : TypeId} {ag : Bool} {sz off : Nat} {y : TV} {m1 m2 m3 : List Value} {c' : Ctx} (h1 : aggB P t = some ag) (h2 : szOf P t = some sz) (hr : RepC c' w y m2) (hy : ldOk ag sz y) (ho : m1.length = off) :
    (part t (m1 ++ m2 ++ m3).toArray off).run P w = .ok (mkV y m2) w := by
  obtain ⟨hw, ha⟩ := hy
  have hl := hr.length
  cases ag with
  | true =>
    have : (m1 ++ m2 ++ m3).toArray.extract off (off + sz) = m2.toArray := by
      apply Array.ext'
      simp only [Array.toList_extract, List.extract_eq_take_drop]
      rw [← ho, ← hw, ← hl]; simp
    simp [part, run_isAgg h1, run_szOf h2, mkV_ag ha] at this ⊢
    exact this
  | false =>
    have h3 : width y = 1 := by cases y <;> first | rfl | simp [isAg] at ha
    rw [h3] at hl
    obtain ⟨u, rfl⟩ := List.length_eq_one_iff.1 hl
    simp [part, run_isAgg h1, ← ho, mkV_one' ha]

theorem y_field (he : EnvOk c w e a) {t ft : TypeId} {f off sz : Nat} {ag : Bool} (h1 : fieldAt? P t f = some (off, ft)) (h2 : aggB P ft = some ag) (h3 : szOf P ft = some sz) {x : Operand} {ty : TypeId} (h : pop (.field ag sz f off (trO x)) e c.H K) : Yields P c w a K (.field t x f) ty := by
  obtain ⟨fs, fx, k1, k2, rfl, rfl⟩ := fieldAt_spec h1
  simp only [pop] at h
  split at h
  · rename_i cs hy
    obtain ⟨hw, h⟩ := h
    split at h
    · rename_i y hi
      obtain ⟨hl, h⟩ := h
      obtain ⟨us, hv, hr⟩ := (he.rep hy).agg
      obtain ⟨m1, m2, m3, rfl, e1, e2, _⟩ := comp_at hr hi
      have hp := run_part (P := P) (m3 := m3) h2 h3 e2 hl (e1.trans hw)
      refine Yields.mk (s := Instr.field t (a.eval x) f) (fun o ho _ => by simp only [execOp, ho]) (v := mkV y m2) ?_ (Rep.of_cells e2) h
      rw [hv]; simp only [Instr.field, Sem.run_bind, run_underlying k1, Result.andThen_ok, k2, asAgg, Sem.run_pure, hp]
    · exact h.elim
  · exact h.elim

theorem run_asInt {k : IntKind} {j : Int} {w : World} : (asIntOf (.int k j)).run P w = .ok (k, j) w := rfl

theorem elem_at {c' : Ctx} {w : World} {cs : List TV} {k : Nat} {us : List Value} (hk : ∀ x ∈ cs, width x = k) (hr : RepCs c' w cs us) {i : Nat} {y : TV} (hi : cs[i]? = some y) : ∃ m1 m2 m3, us = m1 ++ m2 ++ m3 ∧ m1.length = i * k ∧ RepC c' w y m2 ∧ i < cs.length := by
  obtain ⟨m1, m2, m3, rfl, e1, e2, _⟩ := comp_at hr hi
  exact ⟨m1, m2, m3, rfl, by rw [e1, widths_take hk hi], e2, (List.getElem?_eq_some_iff.1 hi).1⟩

theorem cells_part {w : World} {b off : Nat} {m1 m2 m3 : List Value} (h : CellsAt w b off (m1 ++ m2 ++ m3)) {d : Nat} (hd : m1.length = d) : CellsAt w b (off + d) m2 := by
  intro j u hu
  have hj := (List.getElem?_eq_some_iff.1 hu).1
  have := h (d + j) u (by
    rw [← hd, List.append_assoc, List.getElem?_append_right (by omega), List.getElem?_append_left (by omega), ← hu]
    congr 1; omega)
  rwa [← Nat.add_assoc] at this

theorem y_idxA (he : EnvOk c w e a) {t et : TypeId} {k : Nat} (h1 : sliceOf P t = some (k, et)) {x i : Operand} {ty : TypeId} (h : pop (.idxA k (trO x) (trO i)) e c.H K) : Yields P c w a K (.indexAddr t x i) ty := by
  obtain ⟨k1, k2⟩ := sliceOf_spec h1
  simp only [pop] at h
  split at h
  · rename_i k' cs ik j hx hi
    obtain ⟨rfl, h0, h⟩ := h
    split at h
    · rename_i y hy
      obtain ⟨hk, hr⟩ := (he.rep hx).sl
      rcases hr with ⟨rfl, _⟩ | ⟨b, off, cap, vs, hv, h3, h4, h5, h6, h7⟩
      · simp at hy
      obtain ⟨m1, m2, m3, rfl, e1, e2, hlt⟩ := elem_at hk h6 hy
      refine Yields.mk (s := Instr.indexAt t (a.eval x) (a.eval i)) (fun o ho _ => by simp only [execOp, ho]) (v := .pointer (some ⟨b, off + j.toNat * k', none⟩)) ?_ (Rep.mk_fp rfl h5 e2 (cells_part h7 e1)) h
      rw [hv, he.val hi]
      have : j < cs.length := by omega
      simp [Instr.indexAt, run_asInt, run_underlying k1, h0, this, run_szOf k2, addr_add]
    · exact h.elim
  · rename_i k' id ver p off n cp ik j hx hi
    obtain ⟨rfl, h0, hn, h⟩ := h
    have hr := (he.rep hx).os
    rw [RepC] at hr
    obtain ⟨g1, hr⟩ := hr
    rcases hr with ⟨rfl, _⟩ | ⟨b, o, cap, t', m, hb, hv, h3, h4, h5, h6⟩
    · omega
    have hv' : a.eval x = .slice (some ⟨b, o + span p + off * k', none⟩) n cap := by simpa using hv
    refine Yields.mk (s := Instr.indexAt t (a.eval x) (a.eval i)) (fun o ho _ => by simp only [execOp, ho]) (v := .pointer (some ⟨b, o + span p + off * k' + j.toNat * k', none⟩)) ?_ (Rep.mk_op g1 hb ?_) h
    · rw [hv', he.val hi]
      simp [Instr.indexAt, run_asInt, run_underlying k1, h0, hn, run_szOf k2, addr_add]
    · rw [span_append]; simp only [span]
      rw [show o + (span p + ((off + j.toNat) * k' + 0)) = o + span p + off * k' + j.toNat * k' from by rw [Nat.add_mul]; omega]
  · exact h.elim

theorem y_idxAA (he : EnvOk c w e a) {t et : TypeId} {n k : Nat} (h1 : arrayOf P t = some (n, k, et)) {x i : Operand} {ty : TypeId} (h : pop (.idxAA n k (trO x) (trO i)) e c.H K) : Yields P c w a K (.indexAddr t x i) ty := by
  obtain ⟨k1, k2⟩ := arrayOf_spec h1
  simp only [pop] at h
  split at h
  · rename_i n' k' cs ik j hx hi
    obtain ⟨rfl, rfl, h0, h⟩ := h
    split at h
    · rename_i y hy
      obtain ⟨b, off, vs, hv, hF, hr, hc⟩ := (he.rep hx).fp
      rw [RepC] at hr
      obtain ⟨rfl, hk, hr⟩ := hr
      obtain ⟨m1, m2, m3, rfl, e1, e2, hlt⟩ := elem_at hk hr hy
      refine Yields.mk (s := Instr.indexAt t (a.eval x) (a.eval i)) (fun o ho _ => by simp only [execOp, ho]) (v := .pointer (some ⟨b, off + j.toNat * k', none⟩)) ?_ (Rep.mk_fp rfl hF e2 (cells_part hc e1)) h
      rw [hv, he.val hi]
      have : j < cs.length := by omega
      simp [Instr.indexAt, run_asInt, run_underlying k1, h0, this, run_szOf k2, addr_add, Instr.sureAddr]
    · exact h.elim
  · rename_i id ver p ik j hx hi
    obtain ⟨h0, hn, h⟩ := h
    obtain ⟨g1, b, o, hb, hv⟩ := (he.rep hx).op
    refine Yields.mk (s := Instr.indexAt t (a.eval x) (a.eval i)) (fun o ho _ => by simp only [execOp, ho]) (v := .pointer (some ⟨b, o + span p + j.toNat * k, none⟩)) ?_ (Rep.mk_op g1 hb ?_) h
    · rw [hv, he.val hi]
      simp [Instr.indexAt, run_asInt, run_underlying k1, h0, hn, run_szOf k2, addr_add, Instr.sureAddr]
    · rw [span_append]; simp only [span]; rw [show o + (span p + (j.toNat * k + 0)) = o + span p + j.toNat * k from by omega]
  · exact h.elim

theorem y_idx (he : EnvOk c w e a) {t et : TypeId} {n k : Nat} {ag : Bool} (h1 : arrayOf P t = some (n, k, et)) (h2 : aggB P et = some ag) {x i : Operand} {ty : TypeId} (h : pop (.idx ag n k (trO x) (trO i)) e c.H K) : Yields P c w a K (.index t x i) ty := by
  obtain ⟨k1, k2⟩ := arrayOf_spec h1
  simp only [pop] at h
  split at h
  · rename_i n' k' cs ik j hx hi
    obtain ⟨rfl, rfl, h0, h⟩ := h
    split at h
    · rename_i y hy
      obtain ⟨hl, h⟩ := h
      obtain ⟨us, hv, rfl, hk, hr⟩ := (he.rep hx).arr
      obtain ⟨m1, m2, m3, rfl, e1, e2, hlt⟩ := elem_at hk hr hy
      have hp := run_part (P := P) (m3 := m3) h2 k2 e2 hl e1
      refine Yields.mk (s := Instr.index t (a.eval x) (a.eval i)) (fun o ho _ => by simp only [execOp, ho]) (v := mkV y m2) ?_ (Rep.unbare (Rep.of_cells e2)) h
      rw [hv, he.val hi]
      have : j < cs.length := by omega
      simp only [Instr.index, Sem.run_bind, run_asInt, Result.andThen_ok, run_underlying k1, h0, this, and_self, if_true, run_szOf k2, hp]
    · exact h.elim
  · exact h.elim

theorem y_idxS (he : EnvOk c w e a) {t : TypeId} (h1 : isStr P t = true) {x i : Operand} {ty : TypeId} (h : pop (.idxS (trO x) (trO i)) e c.H K) : Yields P c w a K (.index t x i) ty := by
  have k1 := isStr_spec h1
  simp only [pop] at h
  split at h
  · rename_i s ik j hx hi
    obtain ⟨h0, h⟩ := h
    split at h
    · rename_i b hb
      refine Yields.mk (s := Instr.index t (a.eval x) (a.eval i)) (fun o ho _ => by simp only [execOp, ho]) (v := .int .u8 b.toNat) ?_ Rep.of_val h
      rw [he.val hx, he.val hi]
      have hb' : s[j.toNat]? = some b := by
        obtain ⟨hlt, he'⟩ := List.getElem?_eq_some_iff.1 hb
        have hlt' : j.toNat < s.size := by simpa [bl] using hlt
        rw [getElem?_pos s j.toNat hlt']
        rw [← he']; simp [bl]; rfl
      simp [Instr.index, run_asInt, run_underlying k1, h0, hb']
    · exact h.elim
  · exact h.elim

theorem y_ext (he : EnvOk c w e a) {x : Operand} {i : Nat} {ty : TypeId} (h : pop (.ext i (trO x)) e c.H K) : Yields P c w a K (.extract x i) ty := by
  simp only [pop] at h
  split at h
  · rename_i xs hx
    split at h
    · rename_i y hy
      obtain ⟨vs, hv, hr⟩ := (he.rep hx).tup
      have key : ∀ {xs : List TV} {vs : List Value} {i : Nat}, RepL c w xs vs → xs[i]? = some y → ∃ u, vs[i]? = some u ∧ Rep1 c w y u := by
        intro xs
        induction xs with
        | nil => intro vs i _ h; simp at h
        | cons z xs ih =>
          intro vs i hr hi
          obtain ⟨u, us, rfl, h1, h2⟩ := RepL.cons.1 hr
          cases i with
          | zero => simp at hi; subst hi; exact ⟨u, rfl, h1⟩
          | succ i =>
            obtain ⟨u', e1, e2⟩ := ih h2 (i := i) (by simpa using hi)
            exact ⟨u', by simpa using e1, e2⟩
      obtain ⟨u, hu, hru⟩ := key hr hy
      refine Yields.mk (s := Instr.extract (a.eval x) i) (fun o ho _ => by simp only [execOp, ho]) (v := u) ?_ (.inl hru) h
      rw [hv]; simp [Instr.extract, hu]
    · exact h.elim
  · exact h.elim

theorem y_lenS (he : EnvOk c w e a) {x : Operand} {t ty : TypeId} (h1 : isStr P t = true) (h : pop (.lenS (trO x)) e c.H K) : Yields P c w a K (.call { callee := .builtin .len, args := [x].toArray, argTypes := [t].toArray }) ty := by
  have h2 := isStr_spec h1
  simp only [pop] at h
  split at h
  · rename_i s hx
    have hv := he.val hx
    have hsz : (bl s).length = s.size := by simp [bl]
    intro o ho hot
    refine ⟨.val (.int .i64 (bl s).length), .int .i64 (bl s).length, ?_, Rep.of_val, h⟩
    simp [execOp, ho, resolve, invoke, builtin, hv, Builtin.len_, run_underlying h2, goInt, hsz]
  · exact h.elim

theorem y_lenV (he : EnvOk c w e a) {x : Operand} {t ty : TypeId} (h1 : (sliceOf P t).isSome = true) (h : pop (.lenV (trO x)) e c.H K) : Yields P c w a K (.call { callee := .builtin .len, args := [x].toArray, argTypes := [t].toArray }) ty := by
  obtain ⟨⟨k, et⟩, h1⟩ := Option.isSome_iff_exists.1 h1
  have h2 := (sliceOf_spec h1).1
  have run : ∀ (ad : Option Addr) (n cap : Nat), a.eval x = .slice ad n cap → K (.val (.int .i64 n)) → Yields P c w a K (.call { callee := .builtin .len, args := [x].toArray, argTypes := [t].toArray }) ty := by
    intro ad n cap hv hk o ho hot
    refine ⟨.val (.int .i64 n), .int .i64 n, ?_, Rep.of_val, hk⟩
    simp [execOp, ho, resolve, invoke, builtin, hv, Builtin.len_, run_underlying h2, goInt]
  simp only [pop] at h
  split at h
  · rename_i ad n cap hx
    exact run _ _ _ (he.val hx) h
  · rename_i k' cs hx
    obtain ⟨_, hr⟩ := (he.rep hx).sl
    rcases hr with ⟨rfl, ad, cap, hv, _⟩ | ⟨b, off, cap, vs, hv, _⟩
    · exact run _ _ _ hv h
    · exact run _ _ _ hv h
  · rename_i k' id ver p off n cp hx
    have hr := (he.rep hx).os
    rw [RepC] at hr
    rcases hr.2 with ⟨rfl, ad, hv, _⟩ | ⟨b, o, cap, t', m, hb, hv, _⟩
    · exact run ad 0 0 (by simpa using hv) h
    · exact run _ _ _ (by simpa using hv) h
  · exact h.elim

theorem y_slS (he : EnvOk c w e a) {x : Operand} {lo hi : Option Operand} {t ty : TypeId} (h1 : isStr P t = true) (h : pop (.slS (trO x) (lo.map trO) (hi.map trO)) e c.H K) : Yields P c w a K (.slice t x lo hi none) ty := by
  have h2 := isStr_spec h1
  simp only [pop] at h
  split at h
  · rename_i s hx
    have hsz : (bl s).length = s.size := by simp [bl]
    obtain ⟨l, m, e1, e2, hk, hr⟩ := run_bounds (P := P) (w := w) he false (Nat.le_refl _) (Nat.le_refl _) (fun _ => Nat.le_refl _) h
    rw [hsz] at hr e2
    refine Yields.mk (s := Instr.sliceAt t (a.eval x) (lo.map a.eval) (hi.map a.eval) none) (fun o ho _ => by simp only [execOp, ho, Option.map_none]) (v := .string (str (((bl s).drop l).take (m - l)))) ?_ Rep.of_val hk
    rw [he.val hx]
    have hex : s.extract l m = str (((bl s).drop l).take (m - l)) := by
      apply ByteArray.ext
      apply Array.ext'
      simp [str, bl, List.extract_eq_take_drop]
    simp only [Instr.sliceAt, Sem.run_bind, run_underlying h2, Result.andThen_ok, Instr.slice, hr, Option.isSome_none, Bool.false_eq_true, if_false, Sem.run_pure, hex]
  · exact h.elim

theorem y_slV (he : EnvOk c w e a) {x : Operand} {lo hi : Option Operand} {t et ty : TypeId} {k : Nat} (h1 : sliceOf P t = some (k, et)) (h : pop (.slV k (trO x) (lo.map trO) (hi.map trO)) e c.H K) : Yields P c w a K (.slice t x lo hi none) ty := by
  obtain ⟨k1, k2⟩ := sliceOf_spec h1
  have run : ∀ (ad : Option Addr) (n cap l m : Nat), a.eval x = .slice ad n cap → (Instr.sliceBounds true n cap (lo.map a.eval) (hi.map a.eval) none).run P w = .ok (l, m, cap) w →
      (Instr.sliceAt t (a.eval x) (lo.map a.eval) (hi.map a.eval) none).run P w = .ok (.slice (if cap = l then ad else ad.map (·.add (l * k))) (m - l) (cap - l)) w := by
    intro ad n cap l m hv hr
    rw [hv]
    simp only [Instr.sliceAt, Sem.run_bind, run_underlying k1, Result.andThen_ok, Instr.slice, hr, run_szOf k2, Sem.run_pure]
  have mk : ∀ {y : TV} {v : Value}, (Instr.sliceAt t (a.eval x) (lo.map a.eval) (hi.map a.eval) none).run P w = .ok v w → Rep c w y v → K y → Yields P c w a K (.slice t x lo hi none) ty := fun hr hy hk =>
    Yields.mk (s := Instr.sliceAt t (a.eval x) (lo.map a.eval) (hi.map a.eval) none) (fun o ho _ => by simp only [execOp, ho, Option.map_none]) hr hy hk
  simp only [pop] at h
  split at h
  · rename_i k' cs hx
    obtain ⟨rfl, h⟩ := h
    obtain ⟨hw, hr⟩ := (he.rep hx).sl
    rcases hr with ⟨rfl, ad, cap, hv, hc⟩ | ⟨b, off, cap, vs, hv, h3, h4, h5, h6, h7⟩
    · obtain ⟨l, m, e1, e2, hk, hb⟩ := run_bounds (P := P) (w := w) he true (Nat.zero_le cap) (Nat.zero_le cap) (fun h => by cases h) h
      have hl : l = 0 := by simp at e2; omega
      have hm : m = 0 := by simp at e2; omega
      subst hl; subst hm
      refine mk (run _ _ _ _ _ hv hb) ?_ hk
      refine Rep.of1 ?_ (by simp) (by simp)
      rw [RepC]
      exact ⟨by simp, .inl ⟨by simp, _, cap - 0, rfl, by omega⟩⟩
    · obtain ⟨l, m, e1, e2, hk, hb⟩ := run_bounds (P := P) (w := w) he true h3 h3 (fun h => by cases h) h
      refine mk (run _ _ _ _ _ hv hb) ?_ hk
      refine Rep.of1 ?_ (by simp) (by simp)
      have hlen : ((cs.drop l).take (m - l)).length = m - l := by simp; omega
      rw [RepC]
      refine ⟨fun y hy => hw y (List.mem_of_mem_drop (List.mem_of_mem_take hy)), ?_⟩
      by_cases hcl : cap = l
      · left
        have hm0 : m - l = 0 := by omega
        refine ⟨by rw [← List.length_eq_zero_iff, hlen, hm0], _, cap - l, by rw [hm0], by omega⟩
      · right
        rw [if_neg hcl]
        rw [show cs = cs.take l ++ ((cs.drop l).take (m - l) ++ (cs.drop l).drop (m - l)) from by rw [List.take_append_drop, List.take_append_drop]] at h6
        obtain ⟨a1, a2, rfl, g1, g2⟩ := RepCs.split h6
        obtain ⟨b1, b2, rfl, g3, g4⟩ := RepCs.split g2
        have ha1 : a1.length = l * k' := by rw [g1.length, widths_all (fun y hy => hw y (List.mem_of_mem_take hy)), List.length_take]; congr 1; omega
        refine ⟨b, off + l * k', cap - l, b1, ?_, by rw [hlen]; omega, by omega, h5, g3, ?_⟩
        · rw [hlen]; simp [addr_add]
        · rw [← List.append_assoc] at h7; exact cells_part h7 ha1
  · rename_i k' id ver p off n cp hx
    obtain ⟨rfl, h⟩ := h
    have hr := (he.rep hx).os
    rw [RepC] at hr
    obtain ⟨g1, hr⟩ := hr
    rcases hr with ⟨rfl, ad, hv, hcp0, han⟩ | ⟨b, o, cap, t', m', hb, hv, h3, h4, h5, h6, hcpc⟩
    · have hv' : a.eval x = .slice ad 0 0 := by simpa using hv
      obtain ⟨l, m, e1, e2, hk, hb⟩ := run_bounds (P := P) (w := w) he true (Nat.le_refl _) (by omega) (fun h => by cases h) h
      have hl : l = 0 := by omega
      have hm : m = 0 := by omega
      subst hl; subst hm
      refine mk (run _ _ _ _ _ hv' hb) (Rep.of1 ?_ (by simp) (by simp)) hk
      rw [RepC]; exact ⟨g1, .inl ⟨rfl, _, rfl, by omega, by simpa using han⟩⟩
    · have hv' : a.eval x = .slice (some ⟨b, o + span p + off * k', none⟩) n cap := by simpa using hv
      obtain ⟨l, m, e1, e2, hk, hb2⟩ := run_bounds (P := P) (w := w) he true h3 hcpc (fun h => by cases h) h
      refine mk (run _ _ _ _ _ hv' hb2) (Rep.of1 ?_ (by simp) (by simp)) hk
      rw [RepC]
      refine ⟨g1, ?_⟩
      by_cases hcl : cap = l
      · left; exact ⟨by omega, _, by rw [show m - l = 0 from by omega, show cap - l = 0 from by omega], by omega, fun ad had => by rw [if_pos hcl] at had; cases had; show (w.shape? b).isSome = true; rw [h5]; rfl⟩
      · right
        rw [if_neg hcl]
        refine ⟨b, o, cap - l, t', m', hb, by simp [addr_add, Nat.add_mul, Nat.add_assoc], by omega, by omega, h5, ?_, by omega⟩
        rw [Nat.add_mul, Nat.sub_mul]
        have : l * k' ≤ cap * k' := Nat.mul_le_mul_right _ (by omega)
        omega
  · rename_i ad hx
    have hv := he.val hx
    obtain ⟨l, m, e1, e2, hk, hb⟩ := run_bounds (P := P) (w := w) he true (Nat.le_refl _) (Nat.le_refl _) (fun h => by cases h) h
    have hl : l = 0 := by omega
    have hm : m = 0 := by omega
    subst hl; subst hm
    have hr := run _ _ _ _ _ hv hb
    simp only [if_true, Nat.sub_self] at hr
    exact mk hr Rep.of_val hk
  · exact h.elim

theorem y_slA (hs : Sim c w) (he : EnvOk c w e a) {x : Operand} {lo hi : Option Operand} {t et ty : TypeId} {n k : Nat} (h1 : arrayOf P t = some (n, k, et)) (h : pop (.slA n k (trO x) (lo.map trO) (hi.map trO)) e c.H K) : Yields P c w a K (.slice t x lo hi none) ty := by
  obtain ⟨k1, k2⟩ := arrayOf_spec h1
  have run : ∀ (ad : Addr) (l m : Nat), a.eval x = .pointer (some ad) → (Instr.sliceBounds false n n (lo.map a.eval) (hi.map a.eval) none).run P w = .ok (l, m, n) w →
      (Instr.sliceAt t (a.eval x) (lo.map a.eval) (hi.map a.eval) none).run P w = .ok (.slice (some (if n = l then ad else ad.add (l * k))) (m - l) (n - l)) w := by
    intro ad l m hv hr
    rw [hv]
    simp only [Instr.sliceAt, Sem.run_bind, run_underlying k1, Result.andThen_ok, Instr.sureAddr, hr, run_szOf k2, Sem.run_pure]
  have mk : ∀ {y : TV} {v : Value}, (Instr.sliceAt t (a.eval x) (lo.map a.eval) (hi.map a.eval) none).run P w = .ok v w → Rep c w y v → K y → Yields P c w a K (.slice t x lo hi none) ty := fun hr hy hk =>
    Yields.mk (s := Instr.sliceAt t (a.eval x) (lo.map a.eval) (hi.map a.eval) none) (fun o ho _ => by simp only [execOp, ho, Option.map_none]) hr hy hk
  simp only [pop] at h
  split at h
  · rename_i n' k' cs hx
    obtain ⟨rfl, rfl, hnm, h⟩ := h
    obtain ⟨b, off, vs, hv, hF, hr, hc⟩ := (he.rep hx).fp
    rw [RepC] at hr
    obtain ⟨hcl, hw, hr⟩ := hr
    obtain ⟨l, m, e1, e2, hk, hb⟩ := run_bounds (P := P) (w := w) he false (Nat.le_refl _) (Nat.le_refl _) (fun _ => Nat.le_refl _) h
    refine mk (run _ _ _ hv hb) (Rep.of1 ?_ (by simp) (by simp)) hk
    have hlen : ((cs.drop l).take (m - l)).length = m - l := by simp; omega
    rw [RepC]
    refine ⟨fun y hy => hw y (List.mem_of_mem_drop (List.mem_of_mem_take hy)), ?_⟩
    by_cases hnl : n' = l
    · left
      have hm0 : m - l = 0 := by omega
      exact ⟨by rw [← List.length_eq_zero_iff, hlen, hm0], _, n' - l, by rw [hm0], by omega⟩
    · right
      rw [if_neg hnl]
      rw [show cs = cs.take l ++ ((cs.drop l).take (m - l) ++ (cs.drop l).drop (m - l)) from by rw [List.take_append_drop, List.take_append_drop]] at hr
      obtain ⟨a1, a2, rfl, g1, g2⟩ := RepCs.split hr
      obtain ⟨b1, b2, rfl, g3, g4⟩ := RepCs.split g2
      have ha1 : a1.length = l * k' := by rw [g1.length, widths_all (fun y hy => hw y (List.mem_of_mem_take hy)), List.length_take]; congr 1; omega
      refine ⟨b, off + l * k', n' - l, b1, by rw [hlen, addr_add], by rw [hlen]; omega, by omega, hF, g3, ?_⟩
      rw [← List.append_assoc] at hc; exact cells_part hc ha1
  · rename_i id ver p hx
    split at h
    · rename_i v z hid
      obtain ⟨rfl, hnm, h⟩ := h
      split at h
      · rename_i n' k' cs hg
        obtain ⟨rfl, rfl, h⟩ := h
        obtain ⟨g1, b, o, hb, hv⟩ := (he.rep hx).op
        obtain ⟨l, m, e1, e2, hk, hb2⟩ := run_bounds (P := P) (w := w) he false (Nat.le_refl _) (Nat.le_refl _) (fun _ => Nat.le_refl _) h
        refine mk (run _ _ _ hv hb2) (Rep.of1 ?_ (by simp) (by simp)) hk
        rw [RepC]
        refine ⟨g1, ?_⟩
        by_cases hnl : n' = l
        · left; exact ⟨by omega, _, by rw [show m - l = 0 from by omega, show n' - l = 0 from by omega], by omega, fun ad had => by
            rw [if_pos hnl] at had; cases had
            show (w.shape? b).isSome = true
            rcases hs.ob id _ hid with ⟨h0, _⟩ | ⟨b', o', pre, vs, post, t', fr, h0, q1, _⟩
            · rw [h0] at hb; cases hb
            · rw [h0] at hb; cases hb; simp [World.shape?, q1]⟩
        · right
          rw [if_neg hnl]
          -- the array lies within its block
          rcases hs.ob id _ hid with ⟨h0, _⟩ | ⟨b', o', pre, vs, post, t', fr, h0, q1, q2, q3, q4⟩
          · have h0' : c.β id v = none := h0
            rw [h0'] at hb; cases hb
          have h0' : c.β id v = some (b', o') := h0
          rw [h0'] at hb
          obtain ⟨rfl, rfl⟩ : b' = b ∧ o' = o := by simpa using hb
          obtain ⟨a1, a2, a3, rfl, r1, r2⟩ := getP_spec q4 hg
          have hl2 := r2.length
          rw [width] at hl2
          refine ⟨b', o', n' - l, t', (pre ++ (a1 ++ a2 ++ a3) ++ post).length, h0', by simp [addr_add, Nat.add_assoc], by omega, by omega, ?_, ?_, Nat.le_refl _⟩
          · simp [World.shape?, q1]
          · simp only [List.length_append]
            rw [Nat.sub_mul]
            have : l * k' ≤ n' * k' := Nat.mul_le_mul_right _ (by omega)
            omega
      · exact h.elim
    · exact h.elim
  · exact h.elim

theorem y_iface (he : EnvOk c w e a) {t : TypeId} {d : TypeDesc} (h1 : P.underlying t = some d) (h2 : ∀ ms, d ≠ .interface ms) {x : Operand} {ty : TypeId} (h : pop (.iface t (trO x)) e c.H K) : Yields P c w a K (.makeInterface t x) ty := by
  simp only [pop] at h
  obtain ⟨hl, h⟩ := h
  refine Yields.mk (s := Instr.makeInterface t (a.eval x)) (fun o ho _ => by simp only [execOp, ho]) (v := .iface t (a.eval x)) ?_ (Rep.of1 ?_ (by simp) (by simp)) h
  · simp only [Instr.makeInterface, Sem.run_bind, run_underlying h1, Result.andThen_ok]
    cases d <;> first | rfl | exact absurd rfl (h2 _)
  · rw [RepC]
    have hc := (he.ev x).cells hl
    refine ⟨_, rfl, _, hc, ?_⟩
    rcases he.ev x with (h3 | h3 | ⟨us, h3, h4⟩) | ⟨xs, vs, h3, _⟩
    · rw [h3] at hl; simp [lays] at hl
    · rw [h3] at hl hc ⊢
      simp only [lays] at hl
      rw [cells_one hl]; rfl
    · rw [h4]
      generalize (trO x).ev e = y at *
      cases y with
      | agg cs => simp [mkV, Value.cells]
      | arr n k cs => simp [mkV, Value.cells]
      | tup cs => rw [RepC] at h3; exact h3.elim
      | _ =>
        have hlen := h3.length
        simp only [width] at hlen
        obtain ⟨u, rfl⟩ := List.length_eq_one_iff.1 hlen
        simp [mkV, cells_one (h3.one u (by simp))]
    · rw [h3] at hl; simp [lays] at hl

theorem repL_map (he : EnvOk c w e a) : ∀ (xs : List Operand), (∀ x ∈ xs, isTup ((trO x).ev e) = false) → RepL c w ((xs.map trO).map (·.ev e)) (xs.map a.eval)
  | [], _ => by simp [RepL]
  | x :: xs, h => by
    rw [List.map_cons, List.map_cons, List.map_cons, RepL.cons]
    refine ⟨_, _, rfl, ?_, repL_map he xs fun y hy => h y (by simp [hy])⟩
    rcases he.ev x with h1 | ⟨ys, vs, h1, _⟩
    · exact h1
    · have := h x (by simp); rw [h1] at this; simp [isTup] at this

theorem y_mkf (he : EnvOk c w e a) {f : Fn} {first caps : Array Operand} {ty : TypeId} (h : pop (.mkf f (first.toList.map trO) (caps.toList.map trO)) e c.H K) : Yields P c w a K (.makeFunc f first caps) ty := by
  simp only [pop] at h
  obtain ⟨h1, h⟩ := h
  refine Yields.mk (s := Instr.makeFunc f (first.map a.eval) (caps.map a.eval)) (fun o ho _ => by simp only [execOp, ho]) (v := .func f (first.map a.eval) (caps.map a.eval)) rfl (Rep.of1 ?_ (by simp) (by simp)) h
  rw [RepC]
  refine ⟨first.toList.map a.eval, caps.toList.map a.eval, by rw [show first.map a.eval = (first.toList.map a.eval).toArray from by apply Array.ext'; simp, show caps.map a.eval = (caps.toList.map a.eval).toArray from by apply Array.ext'; simp], ?_, ?_⟩
  · exact repL_map he _ fun x hx => h1 _ (List.mem_append_left _ (List.mem_map_of_mem hx))
  · exact repL_map he _ fun x hx => h1 _ (List.mem_append_right _ (List.mem_map_of_mem hx))

theorem y_nilc (he : EnvOk c w e a) {x : Operand} {ty : TypeId} (h : pop (.nilc (trO x)) e c.H K) : Yields P c w a K (.nilCheck x) ty := by
  have fin : ∀ {y : TV} {v : Value}, a.eval x = v → (∀ (o : Oper), o.op = .nilCheck x → (execOp a.eval o).run P w = .ok (.value v) w) → Rep c w y v → K y → Yields P c w a K (.nilCheck x) ty := fun hv hr hy hk o ho _ => ⟨_, _, hr o ho, hy, hk⟩
  simp only [pop] at h
  split at h
  · rename_i id ver p hx
    have hr := he.rep hx
    obtain ⟨g1, b, o, hb, hv⟩ := hr.op
    exact fin hv (fun o ho => by simp [execOp, ho, hv]) (hv ▸ hr) h
  · rename_i y hx
    have hr := he.rep hx
    obtain ⟨b, off, vs, hv, _⟩ := hr.fp
    exact fin hv (fun o ho => by simp [execOp, ho, hv]) (hv ▸ hr) h
  · rename_i f as bs hx
    have hr := he.rep hx
    have h1 := hr.inv1 (by simp) (by simp) (by simp) (by simp) (by simp)
    rw [RepC] at h1
    obtain ⟨us, vs, hv, _⟩ := h1
    have hv' : a.eval x = .func (.func f) us.toArray vs.toArray := by simpa using hv
    exact fin hv' (fun o ho => by simp [execOp, ho, hv']) (hv' ▸ hr) h
  · rename_i t y hx
    have hr := he.rep hx
    have h1 := hr.inv1 (by simp) (by simp) (by simp) (by simp) (by simp)
    rw [RepC] at h1
    obtain ⟨u, hv, _⟩ := h1
    have hv' : a.eval x = .iface t u := by simpa using hv
    exact fin hv' (fun o ho => by simp [execOp, ho, hv']) (hv' ▸ hr) h
  · rename_i f as bs hx
    have hv := he.val hx
    exact fin hv (fun o ho => by simp [execOp, ho, hv]) Rep.of_val h
  · exact h.elim

theorem y_min (he : EnvOk c w e a) {x y : Operand} {ts : Array TypeId} {ty : TypeId} (h : pop (.min (trO x) (trO y)) e c.H K) : Yields P c w a K (.call { callee := .builtin .min, args := [x, y].toArray, argTypes := ts }) ty := by
  simp only [pop] at h
  split at h
  · rename_i k m k' n hx hy
    intro o ho hot
    refine ⟨_, .int k (if n < m then n else m), ?_, Rep.of_val, h⟩
    simp [execOp, ho, resolve, invoke, builtin, he.val hx, he.val hy, Builtin.min_, Builtin.min2]
  · exact h.elim
theorem y_max (he : EnvOk c w e a) {x y : Operand} {ts : Array TypeId} {ty : TypeId} (h : pop (.max (trO x) (trO y)) e c.H K) : Yields P c w a K (.call { callee := .builtin .max, args := [x, y].toArray, argTypes := ts }) ty := by
  simp only [pop] at h
  split at h
  · rename_i k m k' n hx hy
    intro o ho hot
    refine ⟨_, .int k (if n > m then n else m), ?_, Rep.of_val, h⟩
    simp [execOp, ho, resolve, invoke, builtin, he.val hx, he.val hy, Builtin.max_, Builtin.max2]
  · exact h.elim

theorem y_eqB (he : EnvOk c w e a) {op : BinOp} {t yt : TypeId} (h1 : P.underlying t = some .bool) (ho : isEq op = true) {x y : Operand} {ty : TypeId} (h : pop (.eqB (trO x) (trO y) (isNeq op)) e c.H K) : Yields P c w a K (.binOp op t x y yt) ty := by
  simp only [pop] at h
  split at h
  · rename_i p q hx hy
    refine Yields.mk (s := do eqGuard op t x y (a.eval x) (a.eval y); binOp op t (a.eval x) (a.eval y)) (fun o ho _ => by simp only [execOp, ho]) (v := .bool (xor (isNeq op) (p == q))) ?_ Rep.of_val h
    rw [he.val hx, he.val hy]
    have heqd : ∀ d, (Op.equalIn (d + 1) t (.bool p) (.bool q)).run P w = .ok (p == q) w := by
      intro d; simp [Op.equalIn, run_underlying h1]
    have heq : (Op.equal t (.bool p) (.bool q)).run P w = .ok (p == q) w := heqd 9999
    rw [Sem.run_bind, eqGuard_calm rfl, Result.andThen_ok]
    cases op <;> simp [isEq] at ho <;> simp [binOp, heq, isNeq]
  · exact h.elim

theorem y_build (he : EnvOk c w e a) {t : TypeId} {szs : List Nat} {zs : List TV} (h1 : structOf P t = some (szs, zs)) {ps : Array (Nat × Operand)} {ty : TypeId} (h : pop (.build zs szs (ps.toList.map fun q => (q.1, trO q.2))) e c.H K) : Yields P c w a K (.build t ps) ty := by
  simp only [pop] at h
  obtain ⟨hok, h⟩ := h
  unfold structOf at h1
  split at h1
  · rename_i fs it hu hi
    split at h1
    · rename_i z szs' hz hszs
      split at h1
      · rename_i hoffs
        split at h1
        · rename_i zs' hzf
          split at h1
          · rename_i hzw
            cases h1
            have hplaces : fs.toList.mapM (fun f => (P.info? f.type).map fun i => (f.offset, i.size)) = some ((sumsOf 0 szs).zip szs) := by
              rw [← hoffs]
              have key : ∀ (l : List Field) (ks : List Nat), l.mapM (fun f => szOf P f.type) = some ks → l.mapM (fun f => (P.info? f.type).map fun i => (f.offset, i.size)) = some ((l.map (·.offset)).zip ks) := by
                intro l
                induction l with
                | nil => intro ks h; simp at h; subst h; rfl
                | cons f l ih =>
                  intro ks h
                  simp only [List.mapM_cons, Option.bind_eq_bind, Option.bind_eq_some_iff, Option.pure_def, Option.some.injEq] at h
                  obtain ⟨k, hk, ks', hks, rfl⟩ := h
                  unfold szOf at hk
                  obtain ⟨i, hi, rfl⟩ := Option.map_eq_some_iff.1 hk
                  simp [List.mapM_cons, hi, ih _ hks]
              exact key _ _ hszs
            have hplace : ∀ i k, szs[i]? = some k → ((sumsOf 0 szs).zip szs).toArray[i]? = some ((szs.take i).sum, k) := by
              have key : ∀ (l : List Nat) (s i k : Nat), l[i]? = some k → ((sumsOf s l).zip l)[i]? = some (s + (l.take i).sum, k) := by
                intro l
                induction l with
                | nil => intro s i k h; simp at h
                | cons m l ih =>
                  intro s i k h
                  cases i with
                  | zero => simp at h; subst h; simp [sumsOf]
                  | succ i =>
                    have := ih (s + m) i k (by simpa using h)
                    simp only [sumsOf, List.zip_cons_cons, List.getElem?_cons_succ, this, List.take_succ_cons, List.sum_cons]
                    congr 2; omega
              intro i k h
              have := key szs 0 i k h
              simpa using this
            obtain ⟨hzr, _⟩ := zF_spec (c := c) (w := w) hzf
            let av : Opd → Value := fun x => match x with | .t n => a.tmps.getD n undef | .c v => v | .g n => .pointer (some ⟨n, 0, none⟩)
            have hav : ∀ x : Opd, Rep c w (x.ev e) (av x) := by
              intro x; cases x with
              | t n => exact he.1 n
              | c v => exact Rep.of_val
              | g n => exact he.ev (.global n)
            have hav2 : ∀ x : Operand, av (trO x) = a.eval x := by intro x; cases x <;> rfl
            obtain ⟨us', k1, k2, k3⟩ := fill_spec hav hplace (ps.toList.map fun q => (q.1, trO q.2)) zs z.cells.toList hzw hzr hok
            have hparts : ((ps.toList.map fun q => (q.1, trO q.2)).map fun q => (q.1, av q.2)) = ps.toList.map fun q => (q.1, a.eval q.2) := by
              simp [hav2]
            rw [hparts] at k1
            refine Yields.mk (s := Instr.build t (ps.map fun (i, x) => (i, a.eval x))) (fun o ho _ => by simp only [execOp, ho]) (v := .agg us'.toArray) ?_ ?_ h
            · refine run_build w t _ us'.toArray ?_
              unfold Program.built
              simp only [hi, hu, hz, hplaces]
              rw [Array.toArray_toList] at k1
              rw [Array.toList_map]
              exact k1
            · exact Rep.of_cells (x := .agg (fills e zs _)) (by rw [RepC]; exact k2)
          · cases h1
        · cases h1
      · cases h1
    · cases h1
  · cases h1

/-- What is nil and what is not. -/
theorem ptrNil_spec {kd : Nat} {x : TV} {v : Value} {b : Bool} (h : ptrNil kd x = some b) (hr : Rep c w x v) :
    (kd = 0 ∧ ∃ p : Option Addr, v = .pointer p ∧ p.isNone = b) ∨ (kd = 1 ∧ ((v = .nilIface ∧ b = true) ∨ ∃ t u, v = .iface t u ∧ b = false)) ∨
    (kd = 2 ∧ ∃ p : Option Nat, v = .map p ∧ p.isNone = b) ∨ (kd = 3 ∧ ((v = .nilFunc ∧ b = true) ∨ ∃ f p q, v = .func f p q ∧ b = false)) := by
  unfold ptrNil at h
  split at h
  · cases h; rw [Rep.val] at hr; exact .inl ⟨rfl, none, hr, rfl⟩
  · cases h; obtain ⟨_, bb, o, _, hv⟩ := hr.op; exact .inl ⟨rfl, _, hv, rfl⟩
  · cases h; obtain ⟨bb, off, vs, hv, _⟩ := hr.fp; exact .inl ⟨rfl, _, hv, rfl⟩
  · cases h; rw [Rep.val] at hr; exact .inr (.inl ⟨rfl, .inl ⟨hr, rfl⟩⟩)
  · cases h
    have h1 := hr.inv1 (by simp) (by simp) (by simp) (by simp) (by simp)
    rw [RepC] at h1
    obtain ⟨u, hv, _⟩ := h1
    exact .inr (.inl ⟨rfl, .inr ⟨_, u, by simpa using hv, rfl⟩⟩)
  · cases h; rw [Rep.val] at hr; exact .inr (.inr (.inl ⟨rfl, none, hr, rfl⟩))
  · cases h
    have h1 := hr.inv1 (by simp) (by simp) (by simp) (by simp) (by simp)
    rw [RepC] at h1
    obtain ⟨_, b1, o, _, hv⟩ := h1
    exact .inr (.inr (.inl ⟨rfl, some b1, by simpa using hv, rfl⟩))
  · cases h; rw [Rep.val] at hr; exact .inr (.inr (.inr ⟨rfl, .inl ⟨hr, rfl⟩⟩))
  · cases h
    have h1 := hr.inv1 (by simp) (by simp) (by simp) (by simp) (by simp)
    rw [RepC] at h1
    obtain ⟨us, vs, hv, _⟩ := h1
    exact .inr (.inr (.inr ⟨rfl, .inr ⟨_, _, _, by simpa using hv, rfl⟩⟩))
  · cases h
    have h1 := hr.inv1 (by simp) (by simp) (by simp) (by simp) (by simp)
    rw [RepC] at h1
    obtain ⟨_, b1, o, _, hv⟩ := h1
    exact .inr (.inr (.inr ⟨rfl, .inr ⟨_, _, _, by simpa using hv, rfl⟩⟩))
  · cases h

theorem ptrNil0 {x : TV} {v : Value} {b : Bool} (h : ptrNil 0 x = some b) (hr : Rep c w x v) : ∃ p : Option Addr, v = .pointer p ∧ p.isNone = b := by
  rcases ptrNil_spec h hr with ⟨_, h⟩ | ⟨h, _⟩ | ⟨h, _⟩ | ⟨h, _⟩
  · exact h
  all_goals cases h
theorem ptrNil1 {x : TV} {v : Value} {b : Bool} (h : ptrNil 1 x = some b) (hr : Rep c w x v) : (v = .nilIface ∧ b = true) ∨ ∃ t u, v = .iface t u ∧ b = false := by
  rcases ptrNil_spec h hr with ⟨h, _⟩ | ⟨_, h⟩ | ⟨h, _⟩ | ⟨h, _⟩
  · cases h
  · exact h
  all_goals cases h
theorem ptrNil2 {x : TV} {v : Value} {b : Bool} (h : ptrNil 2 x = some b) (hr : Rep c w x v) : ∃ p : Option Nat, v = .map p ∧ p.isNone = b := by
  rcases ptrNil_spec h hr with ⟨h, _⟩ | ⟨h, _⟩ | ⟨_, h⟩ | ⟨h, _⟩
  · cases h
  · cases h
  · exact h
  · cases h
theorem ptrNil3 {x : TV} {v : Value} {b : Bool} (h : ptrNil 3 x = some b) (hr : Rep c w x v) : (v = .nilFunc ∧ b = true) ∨ ∃ f p q, v = .func f p q ∧ b = false := by
  rcases ptrNil_spec h hr with ⟨h, _⟩ | ⟨h, _⟩ | ⟨h, _⟩ | ⟨_, h⟩
  · cases h
  · cases h
  · cases h
  · exact h

theorem eqN_run {t : TypeId} {kd : Nat} {op : BinOp} (ho : isEq op = true)
    (h1 : (kd = 0 ∧ ∃ d, P.underlying t = some (.pointer d)) ∨ (kd = 1 ∧ ∃ ms, P.underlying t = some (.interface ms)) ∨ (kd = 2 ∧ ∃ k d, P.underlying t = some (.map k d)) ∨ (kd = 3 ∧ ∃ ps rs vr, P.underlying t = some (.func ps rs vr)))
    {x y : TV} {u v : Value} {p q r : Bool} (hp : ptrNil kd x = some p) (hq : ptrNil kd y = some q) (hu : Rep c w x u) (hv : Rep c w y v) (hpq : (p = true ∧ r = q) ∨ (p = false ∧ q = true ∧ r = false)) :
    (binOp op t u v).run P w = .ok (.bool (xor (isNeq op) r)) w := by
  have fin : ∀ s : Bool, (∀ d, (Op.equalIn (d + 1) t u v).run P w = .ok s w) → r = s → (∀ op', op' = BinOp.eql ∨ op' = .neq → binOp op' t u v = (if op' = .eql then (do pure (.bool (← Op.equal t u v))) else (do pure (.bool (!(← Op.equal t u v)))))) → (binOp op t u v).run P w = .ok (.bool (xor (isNeq op) r)) w := by
    intro s hs hrs hb
    have heq : (Op.equal t u v).run P w = .ok s w := hs 9999
    subst hrs
    cases op <;> simp [isEq] at ho
    · rw [hb _ (.inl rfl)]; simp [heq, isNeq]
    · rw [hb _ (.inr rfl)]; simp [heq, isNeq]
  rcases h1 with ⟨rfl, d, h1⟩ | ⟨rfl, ms, h1⟩ | ⟨rfl, k, d, h1⟩ | ⟨rfl, ps, rs, vr, h1⟩
  · obtain ⟨a1, rfl, e1⟩ := ptrNil0 hp hu
    obtain ⟨a2, rfl, e2⟩ := ptrNil0 hq hv
    refine fin r (fun d' => ?_) rfl (fun op' h => by rcases h with rfl | rfl <;> rfl)
    cases a1 <;> cases a2 <;> simp at e1 e2 <;> subst e1 <;> subst e2 <;> simp at hpq <;> simp [Op.equalIn, run_underlying h1, hpq]
  · have e1 := ptrNil1 hp hu
    have e2 := ptrNil1 hq hv
    rcases e1 with ⟨rfl, rfl⟩ | ⟨t1, u1, rfl, rfl⟩ <;> rcases e2 with ⟨rfl, rfl⟩ | ⟨t2, u2, rfl, rfl⟩ <;> simp at hpq <;>
      exact fin r (fun d' => by simp [Op.equalIn, run_underlying h1, hpq]) rfl (fun op' h => by rcases h with rfl | rfl <;> rfl)
  · obtain ⟨a1, rfl, e1⟩ := ptrNil2 hp hu
    obtain ⟨a2, rfl, e2⟩ := ptrNil2 hq hv
    refine fin r (fun d' => ?_) rfl (fun op' h => by rcases h with rfl | rfl <;> rfl)
    cases a1 <;> cases a2 <;> simp at e1 e2 <;> subst e1 <;> subst e2 <;> simp at hpq <;> simp [Op.equalIn, run_underlying h1, hpq]
  · have e1 := ptrNil3 hp hu
    have e2 := ptrNil3 hq hv
    rcases e1 with ⟨rfl, rfl⟩ | ⟨t1, u1, u1', rfl, rfl⟩ <;> rcases e2 with ⟨rfl, rfl⟩ | ⟨t2, u2, u2', rfl, rfl⟩ <;> simp at hpq <;>
      exact fin r (fun d' => by simp [Op.equalIn, run_underlying h1, hpq]) rfl (fun op' h => by rcases h with rfl | rfl <;> rfl)

theorem guard_run {t : TypeId} {op : BinOp} {x y : Operand} {u v : Value} (h : calm u v = true ∨ (u = .nilIface ∧ v = .nilIface ∧ (isConstNil x || isConstNil y) = true)) : (eqGuard op t x y u v).run P w = .ok () w := by
  rcases h with h | ⟨rfl, rfl, h⟩
  · exact eqGuard_calm h
  · unfold eqGuard
    rw [Sem.run_ite]
    refine ite_rec rfl ?_
    rw [Bool.or_eq_true] at h
    rcases h with h | h
    · cases x <;> simp [isConstNil] at h
      simp
    · cases y <;> simp [isConstNil] at h
      simp

theorem y_eqN (he : EnvOk c w e a) {kd : Nat} {op : BinOp} {t yt : TypeId} (ho : isEq op = true)
    (h1 : (kd = 0 ∧ ∃ d, P.underlying t = some (.pointer d)) ∨ (kd = 1 ∧ ∃ ms, P.underlying t = some (.interface ms)) ∨ (kd = 2 ∧ ∃ k d, P.underlying t = some (.map k d)) ∨ (kd = 3 ∧ ∃ ps rs vr, P.underlying t = some (.func ps rs vr)))
    {x y : Operand} (hc : kd = 1 → (isConstNil x || isConstNil y) = true) {ty : TypeId} (h : pop (.eqN kd (trO x) (trO y) (isNeq op)) e c.H K) : Yields P c w a K (.binOp op t x y yt) ty := by
  have hg : ∀ p q, ptrNil kd ((trO x).ev e) = some p → ptrNil kd ((trO y).ev e) = some q → (eqGuard op t x y (a.eval x) (a.eval y)).run P w = .ok () w := by
    intro p q hp hq
    refine guard_run ?_
    rcases ptrNil_spec hp (he.ev x) with ⟨_, a1, hu, _⟩ | ⟨hk, ⟨hu, _⟩ | ⟨_, _, hu, _⟩⟩ | ⟨_, a1, hu, _⟩ | ⟨_, ⟨hu, _⟩ | ⟨_, _, _, hu, _⟩⟩ <;>
    rcases ptrNil_spec hq (he.ev y) with ⟨_, a1, hv, _⟩ | ⟨_, ⟨hv, _⟩ | ⟨_, _, hv, _⟩⟩ | ⟨_, a1, hv, _⟩ | ⟨_, ⟨hv, _⟩ | ⟨_, _, _, hv, _⟩⟩ <;> rw [hu, hv] <;> first
      | exact .inl rfl
      | exact .inr ⟨rfl, rfl, hc hk⟩
  have go : ∀ p q r, ptrNil kd ((trO x).ev e) = some p → ptrNil kd ((trO y).ev e) = some q → ((p = true ∧ r = q) ∨ (p = false ∧ q = true ∧ r = false)) → K (.val (.bool (xor (isNeq op) r))) → Yields P c w a K (.binOp op t x y yt) ty := by
    intro p q r hp hq hpq hk
    refine Yields.mk (s := do eqGuard op t x y (a.eval x) (a.eval y); binOp op t (a.eval x) (a.eval y)) (fun o ho _ => by simp only [execOp, ho]) ?_ Rep.of_val hk
    rw [Sem.run_bind, hg p q hp hq, Result.andThen_ok]
    exact eqN_run ho h1 hp hq (he.ev x) (he.ev y) hpq
  simp only [pop] at h
  split at h
  · rename_i b hp hq; exact go _ _ b hp hq (.inl ⟨rfl, rfl⟩) h
  · rename_i hp hq; exact go _ _ false hp hq (.inr ⟨rfl, rfl, rfl⟩) h
  · exact h.elim

theorem y_buildA (he : EnvOk c w e a) {t : TypeId} {n k : Nat} {zs : List TV} (h0 : structOf P t = none) (h1 : arrayZ P t = some (n, k, zs)) {ps : Array (Nat × Operand)} {ty : TypeId} (h : pop (.buildA n k zs (ps.toList.map fun q => (q.1, trO q.2))) e c.H K) : Yields P c w a K (.build t ps) ty := by
  simp only [pop] at h
  obtain ⟨hok, hpure, h⟩ := h
  unfold arrayZ at h1
  split at h1
  · rename_i n' et it hu hi
    split at h1
    · rename_i z k' hz hk
      obtain ⟨zs', hza, h2⟩ := Option.map_eq_some_iff.1 h1
      simp only [Prod.mk.injEq] at h2
      obtain ⟨rfl, rfl, rfl⟩ := h2
      obtain ⟨hzr, hzl, hzw, hzp⟩ := zA_spec (c := c.bare) (w := w) hza
      have hplace : ∀ i k, (List.replicate n' k')[i]? = some k → (fun i => some (i * k', k')) i = some (((List.replicate n' k').take i).sum, k) := by
        intro i k h
        rw [List.getElem?_replicate] at h
        split at h
        · rename_i hi; cases h
          simp only [List.take_replicate, List.sum_replicate_nat]
          rw [Nat.min_eq_left (by omega)]
        · cases h
      have hzw' : zs'.map width = List.replicate n' k' := by
        rw [List.eq_replicate_iff]
        exact ⟨by simp [hzl], fun b hb => by obtain ⟨x, hx, rfl⟩ := List.mem_map.1 hb; exact hzw x hx⟩
      let av : Opd → Value := fun x => match x with | .t n => a.tmps.getD n undef | .c v => v | .g n => .pointer (some ⟨n, 0, none⟩)
      have hav : ∀ x : Opd, Rep c w (x.ev e) (av x) := by
        intro x; cases x with
        | t n => exact he.1 n
        | c v => exact Rep.of_val
        | g n => exact he.ev (.global n)
      have hav2 : ∀ x : Operand, av (trO x) = a.eval x := by intro x; cases x <;> rfl
      obtain ⟨us', k1, k2, k3⟩ := fill_spec hav hplace (ps.toList.map fun q => (q.1, trO q.2)) zs' z.cells.toList hzw' (RepCs.unbare hzr) hok
      have hfl : ∀ (qs : List (Nat × Opd)) (l : List TV), pureL l = true → fillsPure e qs → pureL (fills e l qs) = true := by
        intro qs
        induction qs with
        | nil => intro l hl _; exact hl
        | cons q qs ih =>
          obtain ⟨i, x⟩ := q
          intro l hl hp
          rw [fillsPure] at hp
          refine ih _ ?_ hp.2
          have hs : ∀ (l : List TV) (i : Nat), pureL l = true → pureL (l.set i (x.ev e)) = true := by
            intro l
            induction l with
            | nil => intro i h; simpa using h
            | cons y l ihl =>
              intro i h
              rw [pureL, Bool.and_eq_true] at h
              cases i with
              | zero => rw [List.set_cons_zero, pureL, hp.1, h.2]; rfl
              | succ i => rw [List.set_cons_succ, pureL, h.1, ihl i h.2]; rfl
          exact hs l i hl
      have hparts : ((ps.toList.map fun q => (q.1, trO q.2)).map fun q => (q.1, av q.2)) = ps.toList.map fun q => (q.1, a.eval q.2) := by
        simp [hav2]
      rw [hparts] at k1
      have hk' := hk
      unfold szOf at hk'
      obtain ⟨ie, hie, rfl⟩ := Option.map_eq_some_iff.1 hk'
      refine Yields.mk (s := Instr.build t (ps.map fun (i, x) => (i, a.eval x))) (fun o ho _ => by simp only [execOp, ho]) (v := .agg us'.toArray) ?_ ?_ h
      · refine run_build w t _ us'.toArray ?_
        unfold Program.built
        simp only [hi, hu, hz, hie]
        rw [Array.toArray_toList] at k1
        rw [Array.toList_map]
        exact k1
      · refine Rep.of_cells (x := .arr n' ie.size (fills e zs' _)) ?_
        rw [RepC]
        have hlen : (fills e zs' (ps.toList.map fun q => (q.1, trO q.2))).length = n' := by
          have := congrArg List.length k3
          simpa using this
        refine ⟨hlen, fun y hy => ?_, RepCs.pure (hfl _ _ hzp hpure) k2⟩
        have : width y ∈ (fills e zs' (ps.toList.map fun q => (q.1, trO q.2))).map width := List.mem_map_of_mem hy
        rw [k3] at this
        exact List.eq_of_mem_replicate this
    · cases h1
  · cases h1

theorem run_bounds3 {w : World} {cap l h m : Nat} {k1 k2 k3 : IntKind} {lo : Option Value} (h1 : l ≤ h) (h2 : h ≤ m) (h3 : m ≤ cap) (n : Nat) (hlo : (lo = none ∧ l = 0) ∨ lo = some (.int k1 l)) :
    (Instr.sliceBounds true n cap lo (some (.int k2 h)) (some (.int k3 m))).run P w = .ok (l, h, m) w := by
  have e1 : (m : Int) ≤ cap := by omega
  have e2 : (h : Int) ≤ m := by omega
  have e3 : (l : Int) ≤ h := by omega
  rcases hlo with ⟨rfl, rfl⟩ | rfl
  · simp [Instr.sliceBounds, Instr.sliceBound, asIntOf, h3, h2]
  · simp [Instr.sliceBounds, Instr.sliceBound, asIntOf, h3, h2, h1]

theorem y_sl3 (he : EnvOk c w e a) {x hi mx : Operand} {lo : Option Operand} {t et ty : TypeId} {k : Nat} (h1 : sliceOf P t = some (k, et)) (h : pop (.gen (.sl3 k) [trO x, (lo.map trO).getD (.c (.int .i64 0)), trO hi, trO mx]) e c.H K) : Yields P c w a K (.slice t x lo (some hi) (some mx)) ty := by
  obtain ⟨k1, k2⟩ := sliceOf_spec h1
  have run : ∀ (ad : Option Addr) (n cap l h m : Nat), a.eval x = .slice ad n cap → (Instr.sliceBounds true n cap (lo.map a.eval) (some (a.eval hi)) (some (a.eval mx))).run P w = .ok (l, h, m) w →
      (Instr.sliceAt t (a.eval x) (lo.map a.eval) (some (a.eval hi)) (some (a.eval mx))).run P w = .ok (.slice (if m = l then ad else ad.map (·.add (l * k))) (h - l) (m - l)) w := by
    intro ad n cap l h m hv hr
    rw [hv]
    simp only [Instr.sliceAt, Sem.run_bind, run_underlying k1, Result.andThen_ok, Instr.slice, hr, run_szOf k2, Sem.run_pure]
  have mk : ∀ {y : TV} {v : Value}, (Instr.sliceAt t (a.eval x) (lo.map a.eval) (some (a.eval hi)) (some (a.eval mx))).run P w = .ok v w → Rep c w y v → K y → Yields P c w a K (.slice t x lo (some hi) (some mx)) ty := fun hr hy hk =>
    Yields.mk (s := Instr.sliceAt t (a.eval x) (lo.map a.eval) (some (a.eval hi)) (some (a.eval mx))) (fun o ho _ => by simp only [execOp, ho, Option.map_some]) hr hy hk
  have hbd : ∀ {il ih im : Int} {kl kh km : IntKind} {cap : Nat} (n : Nat), ((lo.map trO).getD (.c (.int .i64 0))).ev e = .val (.int kl il) → (trO hi).ev e = .val (.int kh ih) → (trO mx).ev e = .val (.int km im) → 0 ≤ il → il ≤ ih → ih ≤ im → im ≤ cap →
      (Instr.sliceBounds true n cap (lo.map a.eval) (some (a.eval hi)) (some (a.eval mx))).run P w = .ok (il.toNat, ih.toNat, im.toNat) w := by
    intro il ih im kl kh km cap n hl hh hm g1 g2 g3 g4
    rw [he.val hh, he.val hm]
    have q1 : ((ih.toNat : Nat) : Int) = ih := by omega
    have q2 : ((im.toNat : Nat) : Int) = im := by omega
    have q3 : ((il.toNat : Nat) : Int) = il := by omega
    have := run_bounds3 (P := P) (w := w) (cap := cap) (l := il.toNat) (h := ih.toNat) (m := im.toNat) (k1 := kl) (k2 := kh) (k3 := km) (lo := lo.map a.eval) (by omega) (by omega) (by omega) n (by
      cases lo with
      | none =>
        left
        simp only [Option.map_none, Option.getD_none, Opd.ev, TV.val.injEq, Value.int.injEq] at hl
        exact ⟨rfl, by omega⟩
      | some lo =>
        right
        simp only [Option.map_some, Option.getD_some] at hl
        rw [Option.map_some, he.val hl, q3])
    rwa [q1, q2] at this
  simp only [pop] at h
  split at h
  · rename_i y hy
    simp only [List.map_cons, List.map_nil] at hy
    generalize hx : (trO x).ev e = tx at hy
    generalize hl : ((lo.map trO).getD (.c (.int .i64 0))).ev e = tl at hy
    generalize hh : (trO hi).ev e = th at hy
    generalize hm : (trO mx).ev e = tm at hy
    unfold gev at hy
    split at hy
    case h_1 =>
      rename_i q _ k' cs il l ih hh' im m hq he'
      simp only [List.cons.injEq, and_true] at he'
      obtain ⟨rfl, rfl, rfl, rfl⟩ := he'
      cases hq
      split at hy
      · rename_i hc
        obtain ⟨rfl, g1, g2, g3, g4⟩ := hc
        cases hy
        obtain ⟨hw, hr⟩ := (he.rep hx).sl
        rcases hr with ⟨rfl, ad, cap, hv, hcc⟩ | ⟨b, off, cap, vs, hv, h3, h4, h5, h6, h7⟩
        · have hb := hbd (cap := cap) 0 hl hh hm g1 g2 g3 (by simp at g4; omega)
          refine mk (run _ _ _ _ _ _ hv hb) (Rep.of1 ?_ (by simp) (by simp)) h
          rw [RepC]
          simp only [List.length_nil, Int.natCast_zero] at g4
          exact ⟨by simp, .inl ⟨by simp, _, m.toNat - l.toNat, by rw [show hh'.toNat - l.toNat = 0 from by omega], by omega⟩⟩
        · have hb := hbd (cap := cap) cs.length hl hh hm g1 g2 g3 (by omega)
          refine mk (run _ _ _ _ _ _ hv hb) (Rep.of1 ?_ (by simp) (by simp)) h
          have hlen : ((cs.drop l.toNat).take (hh'.toNat - l.toNat)).length = hh'.toNat - l.toNat := by simp; omega
          rw [RepC]
          refine ⟨fun y hy => hw y (List.mem_of_mem_drop (List.mem_of_mem_take hy)), ?_⟩
          by_cases hcl : m.toNat = l.toNat
          · left
            have hm0 : hh'.toNat - l.toNat = 0 := by omega
            refine ⟨by rw [← List.length_eq_zero_iff, hlen, hm0], _, m.toNat - l.toNat, by rw [hm0], by omega⟩
          · right
            rw [if_neg hcl]
            rw [show cs = cs.take l.toNat ++ ((cs.drop l.toNat).take (hh'.toNat - l.toNat) ++ (cs.drop l.toNat).drop (hh'.toNat - l.toNat)) from by rw [List.take_append_drop, List.take_append_drop]] at h6
            obtain ⟨a1, a2, rfl, f1, f2⟩ := RepCs.split h6
            obtain ⟨b1, b2, rfl, f3, f4⟩ := RepCs.split f2
            have ha1 : a1.length = l.toNat * k' := by rw [f1.length, widths_all (fun y hy => hw y (List.mem_of_mem_take hy)), List.length_take]; congr 1; omega
            refine ⟨b, off + l.toNat * k', m.toNat - l.toNat, b1, ?_, by rw [hlen]; omega, by omega, h5, f3, ?_⟩
            · rw [hlen]; simp [addr_add]
            · rw [← List.append_assoc] at h7; exact cells_part h7 ha1
      · cases hy
    case h_2 =>
      rename_i q _ k' id ver p off n cp il l ih hh' im m hq he'
      simp only [List.cons.injEq, and_true] at he'
      obtain ⟨rfl, rfl, rfl, rfl⟩ := he'
      cases hq
      split at hy
      · rename_i hc
        obtain ⟨rfl, g1, g2, g3, g4⟩ := hc
        cases hy
        have hr := (he.rep hx).os
        rw [RepC] at hr
        obtain ⟨r1, hr⟩ := hr
        rcases hr with ⟨rfl, ad, hv, hcp0, han⟩ | ⟨b, o, cap, t', m', hb, hv, h3, h4, h5, h6, hcpc⟩
        · have hv' : a.eval x = .slice ad 0 0 := by simpa using hv
          have hb := hbd (cap := 0) 0 hl hh hm g1 g2 g3 (by omega)
          refine mk (run _ _ _ _ _ _ hv' hb) (Rep.of1 ?_ (by simp) (by simp)) h
          rw [RepC]; exact ⟨r1, .inl ⟨by omega, ad, by
            rw [if_pos (by omega)]; simp; omega, by omega, han⟩⟩
        · have hv' : a.eval x = .slice (some ⟨b, o + span p + off * k', none⟩) n cap := by simpa using hv
          have hb2 := hbd (cap := cap) n hl hh hm g1 g2 g3 (by omega)
          refine mk (run _ _ _ _ _ _ hv' hb2) (Rep.of1 ?_ (by simp) (by simp)) h
          rw [RepC]
          refine ⟨r1, ?_⟩
          by_cases hcl : m.toNat = l.toNat
          · left; exact ⟨by omega, _, by rw [show hh'.toNat - l.toNat = 0 from by omega, show m.toNat - l.toNat = 0 from by omega], by omega, fun ad had => by rw [if_pos hcl] at had; cases had; show (w.shape? b).isSome = true; rw [h5]; rfl⟩
          · right
            rw [if_neg hcl]
            refine ⟨b, o, m.toNat - l.toNat, t', m', hb, by simp [addr_add, Nat.add_mul, Nat.add_assoc], by omega, by omega, h5, ?_, by omega⟩
            have e1 : (m.toNat - l.toNat) * k' ≤ (cap - l.toNat) * k' := Nat.mul_le_mul_right _ (by omega)
            rw [Nat.sub_mul cap] at e1
            have e2 : l.toNat * k' ≤ cap * k' := Nat.mul_le_mul_right _ (by omega)
            rw [Nat.add_mul]
            omega
      · cases hy
    all_goals contradiction
  · exact h.elim

theorem y_eqA (he : EnvOk c w e a) {op : BinOp} {t yt et : TypeId} {n : Nat} (h1 : P.underlying t = some (.array n et)) (h2 : byteEl P et = true) (h3 : P.eqGuardType P.depth t = false) (ho : isEq op = true) {x y : Operand} {ty : TypeId} (h : pop (.gen (.eqA n (isNeq op)) [trO x, trO y]) e c.H K) : Yields P c w a K (.binOp op t x y yt) ty := by
  simp only [pop] at h
  split at h
  · rename_i r hr
    simp only [List.map_cons, List.map_nil] at hr
    generalize hx : (trO x).ev e = tx at hr
    generalize hy : (trO y).ev e = tyy at hr
    unfold gev at hr
    split at hr
    case h_3 =>
      rename_i q _ neg n1 cs n2 ds hq he'
      simp only [List.cons.injEq, and_true] at he'
      obtain ⟨rfl, rfl⟩ := he'
      cases hq
      split at hr
      · rename_i hc
        obtain ⟨rfl, rfl, g1, g2⟩ := hc
        cases hr
        obtain ⟨us, hv, hl, hw, hrr⟩ := (he.rep hx).arr
        obtain ⟨us', hv', hl', hw', hrr'⟩ := (he.rep hy).arr
        have b1 : ∀ z ∈ cs, isBy z := fun z hz => isByB_is (List.all_eq_true.1 g1 z hz)
        have b2 : ∀ z ∈ ds, isBy z := fun z hz => isByB_is (List.all_eq_true.1 g2 z hz)
        have e1 := bytes_of b1 hrr
        have e2 := bytes_of b2 hrr'
        refine Yields.mk (s := do eqGuard op t x y (a.eval x) (a.eval y); binOp op t (a.eval x) (a.eval y)) (fun o ho _ => by simp only [execOp, ho]) (v := .bool (xor (isNeq op) (cs.map unby == ds.map unby))) ?_ Rep.of_val h
        have heq : (Op.equal t (.agg us.toArray) (.agg us'.toArray)).run P w = .ok (cs.map unby == ds.map unby) w := by
          rw [e1, e2]
          exact run_equal_bytes h1 h2 (by simp [hl]) (by simp [hl'])
        rw [hv, hv', Sem.run_bind, run_eqGuard_agg w op t x y _ _ h3, Result.andThen_ok]
        cases op <;> simp [isEq] at ho <;> simp [binOp, heq, isNeq]
      · cases hr
    all_goals contradiction
  · exact h.elim

theorem zOk_spec {z : Value} {x : TV} (h : zOk z x = true) : z = mkV x z.cells.toList := by
  unfold zOk at h
  split at h
  · rw [mkV_ag h]; simp [Value.cells]
  · cases h
  · rename_i hne1 hne2
    rw [Bool.not_eq_true'] at h
    have : z.cells.toList = [z] := by
      cases z <;> first | rfl | exact absurd rfl (hne1 _)
    rw [this, mkV_one' h]
theorem kBytes_spec {c : Ctx} {w : World} {kk : MK} {x : TV} {k : List UInt8} {v : Value} (h : kBytes kk x = some k) (hr : Rep c w x v) : v = kVal kk k ∧ kOk kk k := by
  unfold kBytes at h
  split at h
  · cases h
    rw [Rep.val] at hr
    exact ⟨by rw [hr]; rfl, trivial⟩
  · rename_i n n' cs
    split at h
    · rename_i hc
      obtain ⟨rfl, hc⟩ := hc
      cases h
      obtain ⟨us, hv, hl, hw, hrr⟩ := hr.arr
      have b1 : ∀ z ∈ cs, isBy z := fun z hz => isByB_is (List.all_eq_true.1 hc z hz)
      exact ⟨by rw [hv, bytes_of b1 hrr]; rfl, by rw [kOk, List.length_map, hl]⟩
    · cases h
  · cases h
theorem Rep.mp {c : Ctx} {w : World} {id ver : Nat} {v : Value} (h : Rep c w (.mp id ver) v) : c.has id ver ∧ ∃ b o, c.β id ver = some (b, o) ∧ v = .map (some b) := by
  have := h.inv1 (by simp) (by simp) (by simp) (by simp) (by simp)
  rw [RepC] at this
  obtain ⟨h1, b, o, h2, h3⟩ := this
  exact ⟨h1, b, o, h2, by simpa using h3⟩
theorem mapOf_spec {t kt : TypeId} {kk : MK} {z : Value} {x : TV} (h : mapOf P t = some (kt, kk, z, x)) : ∃ e, P.underlying t = some (.map kt e) ∧ keyK P kt = some kk ∧ (∀ w : World, (zeroValue e).run P w = .ok z w) ∧ (∀ (c : Ctx) (w : World), RepC c w x z.cells.toList) ∧ z = mkV x z.cells.toList := by
  unfold mapOf at h
  split at h
  · rename_i kt' e hu
    split at h
    · rename_i kk' i hk hi
      split at h
      · rename_i z' hz
        split at h
        · rename_i x' hx
          split at h
          · rename_i ho
            simp only [Option.some.injEq, Prod.mk.injEq] at h
            obtain ⟨rfl, rfl, rfl, rfl⟩ := h
            exact ⟨e, hu, hk, fun w => by simp [zeroValue, typeInfo, hi, hz], fun c w => (zT_spec hx).1, zOk_spec ho⟩
          · cases h
        · cases h
      · cases h
    · cases h
  · cases h
theorem rep_lookT {c : Ctx} {w : World} {z x : TV} {ok b : Bool} {zv v : Value} {r : Option TV} (hx : RepC c w (r.getD z) v.cells.toList) (hv : v = mkV (r.getD z) v.cells.toList) (hb : b = r.isSome) : Rep c w (lookT z ok r) (if ok then .tuple #[v, .bool b] else v) := by
  have h1 : Rep1 c w (r.getD z) v := .inr (.inr ⟨_, hx, hv⟩)
  unfold lookT
  cases ok with
  | false => exact .inl h1
  | true =>
    refine .inr ⟨_, [v, .bool b], rfl, rfl, ?_⟩
    rw [RepL.cons]; refine ⟨v, [.bool b], rfl, h1, ?_⟩
    rw [RepL.cons]; refine ⟨.bool b, [], rfl, .inr (.inl (by rw [hb])), ?_⟩
    rw [RepL.nil]
theorem y_look (hs : Sim c w) (he : EnvOk c w e a) {t kt : TypeId} {kk : MK} {z : Value} {zx : TV} (h1 : mapOf P t = some (kt, kk, z, zx)) {x k : Operand} {ok : Bool} {ty : TypeId} (h : pop (.gen (.look kk zx ok) [trO x, trO k]) e c.H K) : Yields P c w a K (.lookup t x k ok) ty := by
  obtain ⟨et, u1, u2, u3, u4, u5⟩ := mapOf_spec h1
  simp only [pop, List.map_cons, List.map_nil, gev] at h
  split at h
  · rename_i y hy
    unfold gLook at hy
    split at hy
    · rename_i id hx
      split at hy
      · rename_i kk' es kb hid hkb
        split at hy
        · rename_i hkk
          subst hkk
          cases hy
          obtain ⟨hk1, hk2⟩ := kBytes_spec hkb (he.ev k)
          obtain ⟨_, b, o, hb, hv⟩ := (he.rep hx).mp
          obtain ⟨b', ms, cl, k1, k2, k3, _⟩ := hs.ob id _ hid
          rw [hb] at k1
          obtain ⟨rfl, rfl⟩ : b = b' ∧ o = 0 := by simpa using k1
          have hck := run_checkKey (P := P) (w := w) u2 hk2 ms.isEmpty
          have hfk := run_findKey (P := P) (w := w) u2 hk2 k3
          rcases lkp_get (k := kb) 0 k3 with ⟨g1, g2⟩ | ⟨j, v, y, m, g1, g2, g3, g4, g5, g6, g7⟩
          · refine Yields.mk (s := Instr.lookup t (a.eval x) (a.eval k) ok) (fun o ho _ => by simp only [execOp, ho]) (v := if ok then .tuple #[z, .bool false] else z) ?_ (rep_lookT (r := mget kb es) (zv := z) (x := zx) (by rw [g2]; exact u4 c w) (by rw [g2]; exact u5) (by rw [g2]; rfl)) h
            rw [hv, hk1]
            simp only [Instr.lookup, Sem.run_bind, run_underlying u1, Result.andThen_ok, run_getMap k2, Sem.run_pure, hck, hfk, g1, u3]
          · refine Yields.mk (s := Instr.lookup t (a.eval x) (a.eval k) ok) (fun o ho _ => by simp only [execOp, ho]) (v := if ok then .tuple #[v, .bool true] else v) ?_ (rep_lookT (r := mget kb es) (zv := z) (x := zx) (by rw [g2]; exact g6) (by rw [g2]; exact g7) (by rw [g2]; rfl)) h
            rw [hv, hk1]
            simp only [Instr.lookup, Sem.run_bind, run_underlying u1, Result.andThen_ok, run_getMap k2, Sem.run_pure, hck, hfk, g1]
        · cases hy
      · cases hy
    · rename_i hx
      split at hy
      · rename_i kb hkb
        cases hy
        obtain ⟨hk1, hk2⟩ := kBytes_spec hkb (he.ev k)
        have hck := run_checkKey (P := P) (w := w) u2 hk2 true
        have hfk := run_findKey (P := P) (w := w) (c := c) (w0 := w) (es := []) (ms := []) u2 hk2 (by rw [EntsOk])
        refine Yields.mk (s := Instr.lookup t (a.eval x) (a.eval k) ok) (fun o ho _ => by simp only [execOp, ho]) (v := if ok then .tuple #[z, .bool false] else z) ?_ (rep_lookT (r := none) (zv := z) (x := zx) (u4 c w) u5 rfl) h
        rw [he.val hx, hk1]
        simp only [Instr.lookup, Sem.run_bind, run_underlying u1, Result.andThen_ok, Sem.run_pure]
        show (((Instr.checkKey true 10000 kt (kVal kk kb)).run P w).andThen _) = _
        rw [hck, Result.andThen_ok]
        show (((Instr.findKey kt (kVal kk kb) []).run P w).andThen _) = _
        rw [hfk, Result.andThen_ok]
        simp only [lkp, Sem.run_bind, u3, Result.andThen_ok, Sem.run_pure]
      · cases hy
    · cases hy
  · exact h.elim
theorem y_lenM (hs : Sim c w) (he : EnvOk c w e a) {x : Operand} {t ty : TypeId} (h1 : isMap P t = true) (h : pop (.gen .lenM [trO x]) e c.H K) : Yields P c w a K (.call { callee := .builtin .len, args := [x].toArray, argTypes := [t].toArray }) ty := by
  obtain ⟨kt, et, h2⟩ : ∃ kt et, P.underlying t = some (.map kt et) := by
    unfold isMap at h1
    split at h1
    · rename_i kt et hu; exact ⟨kt, et, hu⟩
    · cases h1
  simp only [pop, List.map_cons, List.map_nil, gev] at h
  split at h
  · rename_i y hy
    unfold gLenM at hy
    split at hy
    · rename_i id hx
      split at hy
      · rename_i kk es hid
        cases hy
        obtain ⟨_, b, o, hb, hv⟩ := (he.rep hx).mp
        obtain ⟨b', ms, cl, k1, k2, k3, _⟩ := hs.ob id _ hid
        rw [hb] at k1
        obtain ⟨rfl, rfl⟩ : b = b' ∧ o = 0 := by simpa using k1
        have hl := ents_len k3
        intro o ho hot
        refine ⟨_, .int .i64 es.length, ?_, Rep.of_val, h⟩
        rw [← hl]
        simp [execOp, ho, resolve, invoke, builtin, hv, Builtin.len_, run_underlying h2, goInt, run_getMap k2]
      · cases hy
    · rename_i hx
      cases hy
      intro o ho hot
      refine ⟨_, .int .i64 0, ?_, Rep.of_val, h⟩
      simp [execOp, ho, resolve, invoke, builtin, he.val hx, Builtin.len_, run_underlying h2, goInt]
    · cases hy
  · exact h.elim

/-- WHAT MAKES NOTHING DOES WHAT THE MACHINE OF VALUES SAYS. -/
theorem pop_sound (hs : Sim c w) (he : EnvOk c w e a) {op : Op} {vo : POp} (ht : trP P op = some vo) {ty : TypeId} (h : pop vo e c.H K) : Yields P c w a K op ty := by
  cases op with
  | move x => simp only [trP, Option.some.injEq] at ht; subst ht; exact y_mov he h
  | assign x => simp only [trP, Option.some.injEq] at ht; subst ht; exact y_asg he h
  | pick x y z => simp only [trP, Option.some.injEq] at ht; subst ht; exact y_pick he h
  | unOp op t x => simp only [trP, Option.some.injEq] at ht; subst ht; exact y_un he h
  | extract x i => simp only [trP, Option.some.injEq] at ht; subst ht; exact y_ext he h
  | makeFunc f x y => simp only [trP, Option.some.injEq] at ht; subst ht; exact y_mkf he h
  | nilCheck x => simp only [trP, Option.some.injEq] at ht; subst ht; exact y_nilc he h
  | binOp op t x y yt =>
    simp only [trP] at ht
    split at ht
    · cases ht; exact y_bin he h
    · cases ht; exact y_bin he h
    · rename_i hu; split at ht
      · rename_i ho; cases ht; exact y_eqB he hu ho h
      · cases ht
    · rename_i d hu; split at ht
      · rename_i ho; cases ht; exact y_eqN he ho (.inl ⟨rfl, d, hu⟩) (fun h => by cases h) h
      · cases ht
    · rename_i k d hu; split at ht
      · rename_i ho; cases ht; exact y_eqN he ho (.inr (.inr (.inl ⟨rfl, k, d, hu⟩))) (fun h => by cases h) h
      · cases ht
    · rename_i ps rs vr hu; split at ht
      · rename_i ho; cases ht; exact y_eqN he ho (.inr (.inr (.inr ⟨rfl, ps, rs, vr, hu⟩))) (fun h => by cases h) h
      · cases ht
    · rename_i ms hu; split at ht
      · rename_i ho; cases ht; rw [Bool.and_eq_true] at ho; exact y_eqN he ho.1 (.inr (.inl ⟨rfl, ms, hu⟩)) (fun _ => ho.2) h
      · cases ht
    · rename_i n et hu; split at ht
      · rename_i ho; cases ht; rw [Bool.and_eq_true, Bool.and_eq_true, Bool.not_eq_true'] at ho; exact y_eqA he hu ho.1.2 ho.2 ho.1.1 h
      · cases ht
    · cases ht
  | convert src dst x =>
    simp only [trP] at ht
    split at ht
    · rename_i h1 h2; cases ht; exact y_conv he h1 h2 h
    · rename_i h1 h2; cases ht; exact y_s2s he h1 h2 h
    · rename_i h1 h2; split at ht
      · rename_i h3; cases ht; exact y_b2s hs he h3 h2 h
      · cases ht
    · cases ht
  | load t x =>
    simp only [trP] at ht
    split at ht
    · rename_i h1 h2; cases ht; exact y_load hs he h1 h2 h
    · cases ht
  | fieldAddr t x f =>
    simp only [trP] at ht
    split at ht
    · rename_i h1; split at ht
      · rename_i h2; split at ht
        · cases ht
        · rename_i h3; cases ht; exact y_fieldA he h1 h2 h3 h
      · cases ht
    · cases ht
  | field t x f =>
    simp only [trP] at ht
    split at ht
    · rename_i h1; split at ht
      · rename_i h2 h3; cases ht; exact y_field he h1 h2 h3 h
      · cases ht
    · cases ht
  | indexAddr t x i =>
    simp only [trP] at ht
    split at ht
    · rename_i h1; cases ht; exact y_idxA he h1 h
    · rename_i h1; cases ht; exact y_idxAA he h1 h
    · cases ht
  | index t x i =>
    simp only [trP] at ht
    split at ht
    · rename_i h1; cases ht; exact y_idxS he h1 h
    · rename_i h1; split at ht
      · rename_i h2; cases ht; exact y_idx he h1 h2 h
      · cases ht
    · cases ht
  | slice t x lo hi mx =>
    cases mx with
    | some mx =>
      cases hi with
      | none => simp [trP] at ht
      | some hi =>
        simp only [trP] at ht
        split at ht
        · rename_i h1; cases ht; exact y_sl3 he h1 h
        · cases ht
    | none =>
      simp only [trP] at ht
      split at ht
      · rename_i h1; cases ht; exact y_slS he h1 h
      · rename_i h1; cases ht; exact y_slV he h1 h
      · rename_i h1; cases ht; exact y_slA hs he h1 h
      · cases ht
  | lookup t x k ok =>
    simp only [trP] at ht
    split at ht
    · rename_i h1; cases ht; exact y_look hs he h1 h
    · cases ht
  | makeInterface t x =>
    simp only [trP] at ht
    split at ht
    · cases ht
    · rename_i d hne hu; cases ht; exact y_iface he hu (fun ms hd => hne ms hd) h
    · cases ht
  | build t ps =>
    simp only [trP] at ht
    split at ht
    · rename_i h1; cases ht; exact y_build he h1 h
    · rename_i h0 h1; cases ht; exact y_buildA he h0 h1 h
    · cases ht
  | call cl =>
    obtain ⟨callee, args, ts⟩ := cl
    obtain ⟨args⟩ := args
    obtain ⟨ts⟩ := ts
    cases callee with
    | value f => simp [trP] at ht
    | invoke f m => simp [trP] at ht
    | builtin b =>
      cases b with
      | len =>
        rcases args with _ | ⟨x, _ | ⟨y, args⟩⟩ <;> rcases ts with _ | ⟨t, _ | ⟨t', ts⟩⟩ <;> simp only [trP] at ht <;> first | (cases ht; done) | skip
        split at ht
        · rename_i h1; cases ht; exact y_lenS he h1 h
        · split at ht
          · rename_i h1; cases ht; exact y_lenV he h1 h
          · split at ht
            · rename_i h1; cases ht; exact y_lenM hs he h1 h
            · cases ht
      | min =>
        rcases args with _ | ⟨x, _ | ⟨y, _ | ⟨z, args⟩⟩⟩ <;> simp only [trP] at ht <;> first | (cases ht; done) | skip
        cases ht; exact y_min he h
      | max =>
        rcases args with _ | ⟨x, _ | ⟨y, _ | ⟨z, args⟩⟩⟩ <;> simp only [trP] at ht <;> first | (cases ht; done) | skip
        cases ht; exact y_max he h
      | _ => simp [trP] at ht
  | _ => simp [trP] at ht

end sound
end Go.Proofs.Ytknphdcjopaaoaa
