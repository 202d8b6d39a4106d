/- The operations of the machine of values that make no object: what they yield, and that the model's operations do just that. No program in sight. -/
import Derived.Test.YtknphdcjopaaoaaVmD
namespace Go.Proofs.Ytknphdcjopaaoaa
open Go.RowKit
set_option linter.unusedVariables false
set_option autoImplicit false

def GV.el (k : Nat) (r : List Value) : TV := if k = 1 then (match r with | [v] => .val v | _ => .any) else .agg (r.map .val)
def GV.tv : GV → TV
  | .one v => .val v
  | .row n k rows => .arr n k (rows.map (GV.el k))
theorem repCs_vals {c : Ctx} {w : World} : ∀ {r : List Value}, r.all (·.oneCell') = true → RepCs c w (r.map .val) r
  | [], _ => by rw [List.map_nil, RepCs]
  | v :: r, h => by
    rw [List.all_cons, Bool.and_eq_true] at h
    rw [List.map_cons, RepCs]
    exact ⟨[v], r, rfl, by rw [RepC]; exact ⟨rfl, h.1⟩, repCs_vals h.2⟩
theorem widths_vals : ∀ {r : List Value}, widths (r.map TV.val) = r.length
  | [] => by rw [List.map_nil, widths]; rfl
  | v :: r => by
    have h : width (TV.val v) = 1 := rfl
    rw [List.map_cons, widths, h, widths_vals, List.length_cons, Nat.add_comm]
theorem GV.el_rep {c : Ctx} {w : World} {k : Nat} {r : List Value} (h1 : r.length = k) (h2 : r.all (·.oneCell') = true) : width (GV.el k r) = k ∧ RepC c w (GV.el k r) r := by
  unfold GV.el
  split
  · rename_i hk
    obtain ⟨v, rfl⟩ := List.length_eq_one_iff.1 (h1.trans hk)
    simp only [List.all_cons, List.all_nil, Bool.and_true] at h2
    exact ⟨by rw [hk]; rfl, by rw [RepC]; exact ⟨rfl, h2⟩⟩
  · exact ⟨by rw [width, widths_vals, h1], by rw [RepC]; exact repCs_vals h2⟩
theorem GV.rep {c : Ctx} {w : World} {x : GV} (h : x.ok = true) : RepC c w x.tv x.cells := by
  cases x with
  | one v => rw [GV.tv, GV.cells, RepC]; exact ⟨rfl, h⟩
  | row n k rows =>
    simp only [GV.ok, Bool.and_eq_true, decide_eq_true_eq, List.all_eq_true] at h
    obtain ⟨h1, h2⟩ := h
    rw [GV.tv, GV.cells, RepC]
    refine ⟨by rw [List.length_map, h1], fun y hy => ?_, ?_⟩
    · obtain ⟨r, hr, rfl⟩ := List.mem_map.1 hy
      exact (GV.el_rep (c := c) (w := w) (h2 r hr).1 (List.all_eq_true.2 (h2 r hr).2)).1
    · clear h1
      induction rows with
      | nil => rw [List.map_nil, RepCs]; rfl
      | cons r rows ih =>
        rw [List.map_cons, RepCs]
        exact ⟨r, rows.flatten, rfl, (GV.el_rep (h2 r (by simp)).1 (List.all_eq_true.2 (h2 r (by simp)).2)).2, ih fun q hq => h2 q (by simp [hq])⟩

inductive Opd where
  | t (n : Nat)
  | c (v : Value)
  | g (n : Nat)
  deriving Inhabited

def Opd.ev (e : Env) : Opd → TV
  | .t n => get e n
  | .c v => .val v
  | .g n => match globOf n with
    | some x => .fp x.tv
    | none => .val (.pointer (some ⟨n, 0, none⟩))
def trO : Operand → Opd
  | .tmp t => .t t
  | .const v => .c v
  | .global g => .g g
  | .func f => .c (.func (.func f) #[] #[])
def EnvOk (c : Ctx) (w : World) (e : Env) (a : Act) : Prop := (∀ s, Rep c w (get e s) (a.tmps.getD s undef)) ∧ GlobOk c.F w
theorem EnvOk.ev {c : Ctx} {w : World} {e : Env} {a : Act} (h : EnvOk c w e a) (x : Operand) : Rep c w ((trO x).ev e) (a.eval x) := by
  cases x with
  | tmp t => exact h.1 t
  | const v => exact Rep.of_val
  | global g =>
    show Rep c w (match globOf g with | some x => .fp x.tv | none => .val (.pointer (some ⟨g, 0, none⟩))) (.pointer (some ⟨g, 0, none⟩))
    split
    · rename_i x hx
      obtain ⟨h1, h2⟩ := h.2 g x hx
      refine Rep.of_cells (c := c) (w := w) (x := .fp x.tv) (us := [.pointer (some ⟨g, 0, none⟩)]) ?_
      rw [RepC]
      exact ⟨g, 0, _, rfl, h1, GV.rep (globOf_ok hx), h2⟩
    · exact Rep.of_val
  | func f => exact Rep.of_val

section inv
variable {c : Ctx} {w : World} {v : Value}
theorem Rep.inv {x : TV} (h : Rep c w x v) (h1 : x ≠ .any) (h2 : ∀ u, x ≠ .val u) (h3 : ∀ xs, x ≠ .tup xs) : ∃ us, RepC c w x us ∧ v = mkV x us := by
  rcases h with (h | h | h) | ⟨xs, vs, h, _⟩
  · exact absurd h h1
  · exact absurd h (h2 _)
  · exact h
  · exact absurd h (h3 _)
theorem Rep.inv1 {x : TV} (h : Rep c w x v) (h1 : x ≠ .any) (h2 : ∀ u, x ≠ .val u) (h3 : ∀ xs, x ≠ .tup xs) (h4 : ∀ cs, x ≠ .agg cs) (h5 : ∀ n k cs, x ≠ .arr n k cs) : RepC c w x [v] := by
  obtain ⟨us, h', rfl⟩ := h.inv h1 h2 h3
  have hl := h'.length
  have : width x = 1 := by cases x <;> first | rfl | exact absurd rfl (h4 _) | exact absurd rfl (h5 _ _ _)
  rw [this] at hl
  obtain ⟨u, rfl⟩ := List.length_eq_one_iff.1 hl
  rw [mkV_one h4 h5]; exact h'
theorem Rep.of1 {x : TV} (h : RepC c w x [v]) (h4 : ∀ cs, x ≠ .agg cs) (h5 : ∀ n k cs, x ≠ .arr n k cs) : Rep c w x v := by
  have := Rep.of_cells h
  rwa [mkV_one h4 h5] at this
theorem Rep.os {k id ver off n cp : Nat} {p : List (Nat × Nat)} (h : Rep c w (.os k id ver p off n cp) v) : RepC c w (.os k id ver p off n cp) [v] := h.inv1 (by simp) (by simp) (by simp) (by simp) (by simp)
theorem Rep.op {id ver : Nat} {p : List (Nat × Nat)} (h : Rep c w (.op id ver p) v) : c.has id ver ∧ ∃ b o, c.β id ver = some (b, o) ∧ v = .pointer (some ⟨b, o + span p, none⟩) := by
  have := h.inv1 (by simp) (by simp) (by simp) (by simp) (by simp)
  rw [RepC] at this
  obtain ⟨h1, b, o, h2, h3⟩ := this
  exact ⟨h1, b, o, h2, by simpa using h3⟩
theorem Rep.mk_op {id ver : Nat} {p : List (Nat × Nat)} (h1 : c.has id ver) {b o : Nat} (h2 : c.β id ver = some (b, o)) (h3 : v = .pointer (some ⟨b, o + span p, none⟩)) : Rep c w (.op id ver p) v :=
  Rep.of1 (by rw [RepC]; exact ⟨h1, b, o, h2, by rw [h3]⟩) (by simp) (by simp)
theorem Rep.fp {x : TV} (h : Rep c w (.fp x) v) : ∃ b off vs, v = .pointer (some ⟨b, off, none⟩) ∧ c.F b ∧ RepC c.bare w x vs ∧ CellsAt w b off vs := by
  have := h.inv1 (by simp) (by simp) (by simp) (by simp) (by simp)
  rw [RepC] at this
  obtain ⟨b, off, vs, h1, h2⟩ := this
  exact ⟨b, off, vs, by simpa using h1, h2⟩
theorem Rep.mk_fp {x : TV} {b off : Nat} {vs : List Value} (h1 : v = .pointer (some ⟨b, off, none⟩)) (h2 : c.F b) (h3 : RepC c.bare w x vs) (h4 : CellsAt w b off vs) : Rep c w (.fp x) v :=
  Rep.of1 (by rw [RepC]; exact ⟨b, off, vs, by rw [h1], h2, h3, h4⟩) (by simp) (by simp)
theorem Rep.sl {k : Nat} {cs : List TV} (h : Rep c w (.sl k cs) v) : (∀ x ∈ cs, width x = k) ∧ ((cs = [] ∧ ∃ a cap, v = .slice a 0 cap ∧ cap ≤ 9223372036854775807) ∨
    ∃ b off cap vs, v = .slice (some ⟨b, off, none⟩) cs.length cap ∧ cs.length ≤ cap ∧ cap ≤ 9223372036854775807 ∧ c.F b ∧ RepCs c.bare w cs vs ∧ CellsAt w b off vs) := by
  have := h.inv1 (by simp) (by simp) (by simp) (by simp) (by simp)
  rw [RepC] at this
  simpa using this
theorem Rep.agg {cs : List TV} (h : Rep c w (.agg cs) v) : ∃ us, v = .agg us.toArray ∧ RepCs c w cs us := by
  obtain ⟨us, h', rfl⟩ := h.inv (by simp) (by simp) (by simp)
  rw [RepC] at h'
  exact ⟨us, rfl, h'⟩
theorem Rep.arr {n k : Nat} {cs : List TV} (h : Rep c w (.arr n k cs) v) : ∃ us, v = .agg us.toArray ∧ cs.length = n ∧ (∀ x ∈ cs, width x = k) ∧ RepCs c.bare w cs us := by
  obtain ⟨us, h', rfl⟩ := h.inv (by simp) (by simp) (by simp)
  rw [RepC] at h'
  exact ⟨us, rfl, h'⟩
theorem Rep.tup {xs : List TV} (h : Rep c w (.tup xs) v) : ∃ vs, v = .tuple vs.toArray ∧ RepL c w xs vs := by
  rcases h with (h | h | ⟨us, h, _⟩) | ⟨xs', vs, h, h1, h2⟩
  · cases h
  · cases h
  · rw [RepC] at h; exact h.elim
  · cases h; exact ⟨vs, h1, h2⟩
end inv

theorem span_append (p q : List (Nat × Nat)) : span (p ++ q) = span p + span q := by
  induction p with
  | nil => simp [span]
  | cons x p ih => obtain ⟨i, d⟩ := x; rw [List.cons_append, span, span, ih]; omega

/-- An operation on exact values. -/
def binV (t : TypeId) (op : BinOp) (x y : Value) : Option Value := match binOp op t x y with
  | .pure v => some v
  | _ => none
def unV (op : UnOp) (x : Value) : Option Value := match Op.unary op x with
  | .pure v => some v
  | _ => none
/-- No look at two nil interfaces or at two structs. -/
def calm : Value → Value → Bool
  | .nilIface, .nilIface => false
  | .agg _, .agg _ => false
  | _, _ => true

theorem binV_run {P : Program} {w : World} {t : TypeId} {op : BinOp} {x y r : Value} (h : binV t op x y = some r) : (binOp op t x y).run P w = .ok r w := by
  unfold binV at h
  split at h
  · rename_i e; cases h; rw [e]; rfl
  · cases h
theorem unV_run {P : Program} {w : World} {op : UnOp} {x r : Value} (h : unV op x = some r) : (Op.unary op x).run P w = .ok r w := by
  unfold unV at h
  split at h
  · rename_i e; cases h; rw [e]; rfl
  · cases h
theorem ite_rec {α : Type} {c : Prop} [Decidable c] {x y z : α} (h1 : x = z) (h2 : y = z) : (if c then x else y) = z := by split <;> assumption
theorem eqGuard_calm {P : Program} {w : World} {t : TypeId} {op : BinOp} {x y : Operand} {u v : Value} (h : calm u v = true) : (eqGuard op t x y u v).run P w = .ok () w := by
  unfold eqGuard
  rw [Sem.run_ite]
  refine ite_rec ?_ ?_
  · rfl
  · split
    · simp [calm] at h
    · simp [calm] at h
    · rfl

/-- Is it a struct or an array? -/
def isAg : TV → Bool
  | .agg _ => true
  | .arr _ _ _ => true
  | _ => false
def isTup : TV → Bool
  | .tup _ => true
  | _ => false
def ldOk (ag : Bool) (sz : Nat) (y : TV) : Prop := width y = sz ∧ isAg y = ag

theorem mkV_ag {y : TV} {us : List Value} (h : isAg y = true) : mkV y us = .agg us.toArray := by cases y <;> first | rfl | simp [isAg] at h
theorem mkV_one' {y : TV} {u : Value} (h : isAg y = false) : mkV y [u] = u := mkV_one (by rintro cs rfl; simp [isAg] at h) (by rintro n k cs rfl; simp [isAg] at h)

def aggB (P : Program) (t : TypeId) : Option Bool := (P.underlying t).map fun d => match d with
  | .struct _ | .array _ _ => true
  | _ => false
def szOf (P : Program) (t : TypeId) : Option Nat := (P.info? t).map (·.size)

theorem run_isAgg {P : Program} {w : World} {t : TypeId} {b : Bool} (h : aggB P t = some b) : (isAgg t).run P w = .ok b w := by
  unfold aggB at h
  obtain ⟨d, hd, rfl⟩ := Option.map_eq_some_iff.1 h
  unfold isAgg
  rw [Sem.run_bind, run_underlying hd]
  cases d <;> rfl
theorem run_szOf {P : Program} {w : World} {t : TypeId} {n : Nat} (h : szOf P t = some n) : (sizeOf t).run P w = .ok n w := by
  unfold szOf at h
  obtain ⟨i, hi, rfl⟩ := Option.map_eq_some_iff.1 h
  simp [sizeOf, typeInfo, hi]

/-- What lies there is read. -/
theorem run_load_cells {P : Program} {w : World} {t : TypeId} {ag : Bool} {sz b off : Nat} {y : TV} {us : List Value} {c : Ctx} (h1 : aggB P t = some ag) (h2 : szOf P t = some sz) (hr : RepC c w y us) (hc : CellsAt w b off us) (hy : ldOk ag sz y) :
    (Instr.loadAt t (.pointer (some ⟨b, off, none⟩))).run P w = .ok (mkV y us) w := by
  obtain ⟨hw, ha⟩ := hy
  have hl := hr.length
  cases ag with
  | true =>
    have hlc := run_loadCells_list (P := P) w ⟨b, off, none⟩ us (fun j u hj => by rw [addr_add]; exact hc j u hj)
    rw [hl, hw] at hlc
    simp [Instr.loadAt, Instr.sureAddr, loadVar, run_isAgg h1, run_szOf h2, hlc, mkV_ag ha]
  | false =>
    have h3 : width y = 1 := by cases y <;> first | rfl | simp [isAg] at ha
    rw [h3] at hl
    obtain ⟨u, rfl⟩ := List.length_eq_one_iff.1 hl
    have hcell := hc 0 u rfl
    simp only [Nat.add_zero] at hcell
    simp [Instr.loadAt, Instr.sureAddr, loadVar, run_isAgg h1, hcell, mkV_one' ha]

/-- A part of an object, read. -/
theorem part_at {c : Ctx} {w : World} (hs : Sim c w) {id ver b o : Nat} {p : List (Nat × Nat)} {x y : TV} (ho : c.H[id]? = some (.obj ver x)) (hb : c.β id ver = some (b, o)) (hg : getP p x = some y) :
    ∃ us, RepC c w y us ∧ CellsAt w b (o + span p) us := by
  rcases hs.ob id _ ho with ⟨h0, _⟩ | ⟨b', o', pre, vs, post, t, fr, h0, h1, h2, h3, h4⟩
  · have h0' : c.β id ver = none := h0
    rw [h0'] at hb; cases hb
  have h0' : c.β id ver = some (b', o') := h0
  rw [h0'] at hb
  obtain ⟨rfl, rfl⟩ : b' = b ∧ o' = o := by simpa using hb
  obtain ⟨a, m, q, rfl, k1, k2⟩ := getP_spec h4 hg
  exact ⟨m, k2, by rw [← h3, ← k1]; exact cells_mid h1⟩

/-- Operations that yield one thing, by what their operands hold. -/
inductive GOp where
  /-- a slice with its capacity cut -/
  | sl3 (k : Nat)
  /-- two arrays of bytes: are they equal? -/
  | eqA (n : Nat) (neg : Bool)
  /-- a map is asked: what else it yields; is 'ok' wanted? -/
  | look (kk : MK) (z : TV) (ok : Bool)
  /-- how many entries a map has -/
  | lenM
  deriving Inhabited

/-- The operations that make nothing. -/
inductive POp where
  | mov (x : Opd)
  | pick (c a b : Opd)
  | bin (t : TypeId) (op : BinOp) (x y : Opd)
  | un (op : UnOp) (x : Opd)
  | conv (k : IntKind) (x : Opd)
  | s2s (x : Opd)
  | b2s (x : Opd)
  | load (ag : Bool) (sz : Nat) (x : Opd)
  | fieldA (i off : Nat) (x : Opd)
  | field (ag : Bool) (sz i off : Nat) (x : Opd)
  | idxA (k : Nat) (x i : Opd)
  | idxAA (n k : Nat) (x i : Opd)
  | idx (ag : Bool) (n k : Nat) (x i : Opd)
  | idxS (x i : Opd)
  | ext (i : Nat) (x : Opd)
  | lenS (x : Opd)
  | lenV (x : Opd)
  | slS (x : Opd) (lo hi : Option Opd)
  | slV (k : Nat) (x : Opd) (lo hi : Option Opd)
  | slA (n k : Nat) (x : Opd) (lo hi : Option Opd)
  | iface (t : TypeId) (x : Opd)
  | mkf (f : Fn) (first caps : List Opd)
  | nilc (x : Opd)
  | min (x y : Opd)
  | max (x y : Opd)
  | eqB (x y : Opd) (neg : Bool)
  | eqN (kd : Nat) (x y : Opd) (neg : Bool)
  | build (zs : List TV) (szs : List Nat) (ps : List (Nat × Opd))
  | buildA (n k : Nat) (zs : List TV) (ps : List (Nat × Opd))
  | gen (g : GOp) (xs : List Opd)
  deriving Inhabited

/-- A byte's reading. -/
def isBy (x : TV) : Prop := ∃ b : UInt8, x = by8 b
def unby : TV → UInt8
  | .val (.int .u8 n) => UInt8.ofNat n.toNat
  | _ => 0
@[simp] theorem unby_by8 (b : UInt8) : unby (by8 b) = b := by simp [unby]
@[simp] theorem isBy_by8 (b : UInt8) : isBy (by8 b) := ⟨b, rfl⟩

/-- Bounds of a slice expression. -/
def bnd (e : Env) (lo hi : Option Opd) (len lim : Nat) (K : Nat → Nat → Prop) : Prop :=
  match (match lo with | none => some 0 | some x => (match x.ev e with | .val (.int _ i) => some i | _ => none)), (match hi with | none => some (len : Int) | some x => (match x.ev e with | .val (.int _ i) => some i | _ => none)) with
  | some l, some h => (0 ≤ l ∧ l ≤ h ∧ h ≤ lim) ∧ K l.toNat h.toNat
  | _, _ => False

/-- A struct's fields: some of them laid. -/
def fills (e : Env) : List TV → List (Nat × Opd) → List TV
  | zs, [] => zs
  | zs, (i, x) :: ps => fills e (zs.set i (x.ev e)) ps
def fillsOk (e : Env) (szs : List Nat) : List (Nat × Opd) → Prop
  | [] => True
  | (i, x) :: ps => (lays (x.ev e) = true ∧ szs[i]? = some (width (x.ev e))) ∧ fillsOk e szs ps
def fillsPure (e : Env) : List (Nat × Opd) → Prop
  | [] => True
  | (_, x) :: ps => pureT (x.ev e) = true ∧ fillsPure e ps

/-- Is it nil? (0: a pointer; 1: an interface; 2: a map; 3: a function) -/
def ptrNil : Nat → TV → Option Bool
  | 0, .val (.pointer none) => some true
  | 0, .op _ _ _ => some false
  | 0, .fp _ => some false
  | 1, .val .nilIface => some true
  | 1, .ifc _ _ => some false
  | 2, .val (.map none) => some true
  | 2, .mp _ _ => some false
  | 3, .val .nilFunc => some true
  | 3, .fn _ _ _ => some false
  | 3, .yl _ _ => some false
  | _, _ => none

def isByB : TV → Bool
  | .val (.int .u8 n) => decide (0 ≤ n ∧ n < 256)
  | _ => false
theorem isByB_is {x : TV} (h : isByB x = true) : isBy x := by
  unfold isByB at h
  split at h
  · rename_i n
    simp only [decide_eq_true_eq] at h
    refine ⟨UInt8.ofNat n.toNat, ?_⟩
    show TV.val (.int .u8 n) = .val (.int .u8 (UInt8.ofNat n.toNat).toNat)
    have : (UInt8.ofNat n.toNat).toNat = n.toNat := by
      rw [UInt8.toNat_ofNat']; omega
    rw [this]; congr 2; omega
  · cases h
@[simp] theorem isByB_by8 (b : UInt8) : isByB (by8 b) = true := by
  show decide (0 ≤ (b.toNat : Int) ∧ (b.toNat : Int) < 256) = true
  have := b.toNat_lt
  simp only [decide_eq_true_eq]; omega
theorem isByB_all (l : List UInt8) : (l.map by8).all isByB = true := by
  simp [List.all_eq_true]
theorem unby_all (l : List UInt8) : (l.map by8).map unby = l := by simp [List.map_map, Function.comp_def]

def mget (k : List UInt8) : List (List UInt8 × TV) → Option TV
  | [] => none
  | (k', x) :: es => if k' = k then some x else mget k es
def mput (k : List UInt8) (x : TV) : List (List UInt8 × TV) → List (List UInt8 × TV)
  | [] => [(k, x)]
  | (k', y) :: es => if k' = k then (k, x) :: es else (k', y) :: mput k x es

/-- The place of a key's entry. -/
def mpos (k : List UInt8) : List (List UInt8 × TV) → Nat
  | [] => 0
  | (k', _) :: es => if k' = k then 0 else mpos k es + 1
/-- A key's bytes. -/
def kBytes : MK → TV → Option (List UInt8)
  | .str, .val (.string s) => some (bl s)
  | .arr n, .arr n' 1 cs => if n' = n ∧ cs.all isByB = true then some (cs.map unby) else none
  | _, _ => none
def lookT (z : TV) (ok : Bool) (r : Option TV) : TV := if ok then .tup [r.getD z, .val (.bool r.isSome)] else r.getD z
def gLook (kk : MK) (z : TV) (ok : Bool) (H : List Ob) (x kx : TV) : Option TV := match x with
  | .mp id 0 => (match H[id]?, kBytes kk kx with
    | some (.mpo kk' es), some k => if kk' = kk then some (lookT z ok (mget k es)) else none
    | _, _ => none)
  | .val (.map none) => (match kBytes kk kx with
    | some k => some (lookT z ok none)
    | none => none)
  | _ => none
def gLenM (H : List Ob) (x : TV) : Option TV := match x with
  | .mp id 0 => (match H[id]? with
    | some (.mpo _ es) => some (.val (.int .i64 es.length))
    | _ => none)
  | .val (.map none) => some (.val (.int .i64 0))
  | _ => none
/-- What they yield. -/
def gev : GOp → List Ob → List TV → Option TV
  | .sl3 k, _, [.sl k' cs, .val (.int _ l), .val (.int _ h), .val (.int _ m)] => if k' = k ∧ 0 ≤ l ∧ l ≤ h ∧ h ≤ m ∧ m ≤ cs.length then some (.sl k ((cs.drop l.toNat).take (h.toNat - l.toNat))) else none
  | .sl3 k, _, [.os k' id ver p off n cp, .val (.int _ l), .val (.int _ h), .val (.int _ m)] => if k' = k ∧ 0 ≤ l ∧ l ≤ h ∧ h ≤ m ∧ m ≤ cp then some (.os k id ver p (off + l.toNat) (h.toNat - l.toNat) (m.toNat - l.toNat)) else none
  | .eqA n neg, _, [.arr n1 1 cs, .arr n2 1 ds] => if n1 = n ∧ n2 = n ∧ cs.all isByB = true ∧ ds.all isByB = true then some (.val (.bool (xor neg (cs.map unby == ds.map unby)))) else none
  | .look kk z ok, H, [x, k] => gLook kk z ok H x k
  | .lenM, H, [x] => gLenM H x
  | _, _, _ => none

/-- What an operation yields. -/
def pop (o : POp) (e : Env) (H : List Ob) (K : TV → Prop) : Prop := match o with
  | .mov x => K (x.ev e)
  | .pick c a b => match c.ev e with
    | .val (.bool t) => K (if t then a.ev e else b.ev e)
    | _ => False
  | .bin t op x y => match x.ev e, y.ev e with
    | .val u, .val v => calm u v = true ∧ (match binV t op u v with | some r => K (.val r) | none => False)
    | _, _ => False
  | .un op x => match x.ev e with
    | .val u => (match unV op u with | some r => K (.val r) | none => False)
    | _ => False
  | .conv k x => match x.ev e with
    | .val (.int _ n) => K (.val (.int k (k.wrap n)))
    | _ => False
  | .s2s x => match x.ev e with
    | .val (.string s) => K (.val (.string s))
    | _ => False
  | .b2s x => match elemsOf H 1 (x.ev e) with
    | some cs => (∀ y ∈ cs, isBy y) ∧ K (.val (.string (str (cs.map unby))))
    | none => False
  | .load ag sz x => match x.ev e with
    | .fp y => ldOk ag sz y ∧ K y
    | .op id ver p => (match H[id]? with
      | some (.obj v x) => v = ver ∧ (match getP p x with | some y => ldOk ag sz y ∧ K y | none => False)
      | _ => False)
    | _ => False
  | .fieldA i off x => match x.ev e with
    | .op id ver p => K (.op id ver (p ++ [(i, off)]))
    | .fp (.agg cs) => widths (cs.take i) = off ∧ (match cs[i]? with | some y => K (.fp y) | none => False)
    | _ => False
  | .field ag sz i off x => match x.ev e with
    | .agg cs => widths (cs.take i) = off ∧ (match cs[i]? with | some y => ldOk ag sz y ∧ K y | none => False)
    | _ => False
  | .idxA k x i => match x.ev e, i.ev e with
    | .sl k' cs, .val (.int _ j) => k' = k ∧ 0 ≤ j ∧ (match cs[j.toNat]? with | some y => K (.fp y) | none => False)
    | .os k' id ver p off n cp, .val (.int _ j) => k' = k ∧ 0 ≤ j ∧ j < n ∧ K (.op id ver (p ++ [(off + j.toNat, (off + j.toNat) * k)]))
    | _, _ => False
  | .idxAA n k x i => match x.ev e, i.ev e with
    | .fp (.arr n' k' cs), .val (.int _ j) => k' = k ∧ n' = n ∧ 0 ≤ j ∧ (match cs[j.toNat]? with | some y => K (.fp y) | none => False)
    | .op id ver p, .val (.int _ j) => 0 ≤ j ∧ j < n ∧ K (.op id ver (p ++ [(j.toNat, j.toNat * k)]))
    | _, _ => False
  | .idx ag n k x i => match x.ev e, i.ev e with
    | .arr n' k' cs, .val (.int _ j) => k' = k ∧ n' = n ∧ 0 ≤ j ∧ (match cs[j.toNat]? with | some y => ldOk ag k y ∧ K y | none => False)
    | _, _ => False
  | .idxS x i => match x.ev e, i.ev e with
    | .val (.string s), .val (.int _ j) => 0 ≤ j ∧ (match (bl s)[j.toNat]? with | some b => K (by8 b) | none => False)
    | _, _ => False
  | .ext i x => match x.ev e with
    | .tup xs => (match xs[i]? with | some y => K y | none => False)
    | _ => False
  | .lenS x => match x.ev e with
    | .val (.string s) => K (.val (.int .i64 (bl s).length))
    | _ => False
  | .lenV x => match x.ev e with
    | .val (.slice _ n _) => K (.val (.int .i64 n))
    | .sl _ cs => K (.val (.int .i64 cs.length))
    | .os _ _ _ _ _ n _ => K (.val (.int .i64 n))
    | _ => False
  | .slS x lo hi => match x.ev e with
    | .val (.string s) => bnd e lo hi (bl s).length (bl s).length fun l h => K (.val (.string (str (((bl s).drop l).take (h - l)))))
    | _ => False
  | .slV k x lo hi => match x.ev e with
    | .sl k' cs => k' = k ∧ bnd e lo hi cs.length cs.length fun l h => K (.sl k ((cs.drop l).take (h - l)))
    | .os k' id ver p off n cp => k' = k ∧ bnd e lo hi n cp fun l h => K (.os k id ver p (off + l) (h - l) (cp - l))
    | .val (.slice ad 0 0) => bnd e lo hi 0 0 fun l h => K (.val (.slice ad 0 0))
    | _ => False
  | .slA n k x lo hi => match x.ev e with
    | .fp (.arr n' k' cs) => k' = k ∧ n' = n ∧ n ≤ 9223372036854775807 ∧ bnd e lo hi n n fun l h => K (.sl k ((cs.drop l).take (h - l)))
    | .op id ver p => (match H[id]? with
      | some (.obj v x) => v = ver ∧ n ≤ 9223372036854775807 ∧ (match getP p x with | some (.arr n' k' cs) => k' = k ∧ n' = n ∧ bnd e lo hi n n fun l h => K (.os k id ver p l (h - l) (n - l)) | _ => False)
      | _ => False)
    | _ => False
  | .iface t x => lays (x.ev e) = true ∧ K (.ifc t (x.ev e))
  | .mkf f first caps => (∀ x ∈ first ++ caps, isTup (x.ev e) = false) ∧ K (.fn f (first.map (·.ev e)) (caps.map (·.ev e)))
  | .nilc x => match x.ev e with
    | .op id ver p => K (.op id ver p)
    | .fp y => K (.fp y)
    | .fn (.func f) a b => K (.fn (.func f) a b)
    | .ifc t y => K (.ifc t y)
    | .val (.func (.func f) a b) => K (.val (.func (.func f) a b))
    | _ => False
  | .min x y => match x.ev e, y.ev e with
    | .val (.int k a), .val (.int _ b) => K (.val (.int k (if b < a then b else a)))
    | _, _ => False
  | .max x y => match x.ev e, y.ev e with
    | .val (.int k a), .val (.int _ b) => K (.val (.int k (if b > a then b else a)))
    | _, _ => False
  | .eqB x y neg => match x.ev e, y.ev e with
    | .val (.bool a), .val (.bool b) => K (.val (.bool (xor neg (a == b))))
    | _, _ => False
  | .eqN kd x y neg => match ptrNil kd (x.ev e), ptrNil kd (y.ev e) with
    | some true, some b => K (.val (.bool (xor neg b)))
    | some false, some true => K (.val (.bool (xor neg false)))
    | _, _ => False
  | .build zs szs ps => fillsOk e szs ps ∧ K (.agg (fills e zs ps))
  | .buildA n k zs ps => fillsOk e (List.replicate n k) ps ∧ fillsPure e ps ∧ K (.arr n k (fills e zs ps))
  | .gen g xs => match gev g H (xs.map (·.ev e)) with
    | some y => K y
    | none => False

end Go.Proofs.Ytknphdcjopaaoaa
