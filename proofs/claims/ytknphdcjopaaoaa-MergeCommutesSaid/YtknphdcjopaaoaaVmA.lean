/- A machine of values beside the model's: what a slot holds is said by a term 'TV' (an exact value, a slice that nobody changes any more as the list of its elements, a reference to an object that the running code alone owns), never by an address. No program in sight. -/
import Derived.Test.YtknphdcjopaaoaaGlob
namespace Go.Proofs.Ytknphdcjopaaoaa
open Go.RowKit
set_option linter.unusedVariables false
set_option autoImplicit false

/-- What is known of a value. -/
inductive TV where
  /-- just this value -/
  | val (v : Value)
  | any
  /-- a slice in memory that stays as it is; how many cells an element has; the elements -/
  | sl (k : Nat) (cs : List TV)
  /-- a pointer to such memory; what lies there -/
  | fp (x : TV)
  /-- a pointer into an object of one's own: its number, its version; the way to the part: its place and its first cell -/
  | op (id ver : Nat) (p : List (Nat × Nat))
  /-- a slice of an array in an object of one's own: how many cells an element has; the object, the way to the array; the first element, how many -/
  | os (k id ver : Nat) (p : List (Nat × Nat)) (off n cp : Nat)
  /-- a struct, by its fields -/
  | agg (cs : List TV)
  /-- an array of n elements of k cells; none refers to an object of one's own -/
  | arr (n k : Nat) (cs : List TV)
  | tup (vs : List TV)
  | ifc (t : TypeId) (v : TV)
  | fn (f : Fn) (first caps : List TV)
  /-- a map of one's own -/
  | mp (id ver : Nat)
  /-- the function that a loop over a function hands out: the loop's number -/
  | yl (id ver : Nat)
  deriving Inhabited

/-- Which keys a map has: strings, or arrays of n bytes. -/
inductive MK where
  | str
  | arr (n : Nat)
  deriving Inhabited, DecidableEq
def kVal : MK → List UInt8 → Value
  | .str, l => .string ⟨l.toArray⟩
  | .arr _, l => .agg (l.map fun b : UInt8 => Value.int .u8 b.toNat).toArray
def kOk : MK → List UInt8 → Prop
  | .str, _ => True
  | .arr n, l => l.length = n
/-- What an object of one's own holds; its version. -/
inductive Ob where
  | obj (ver : Nat) (x : TV)
  | gone (ver : Nat)
  /-- its first m cells may be frozen -/
  | ice (ver m : Nat) (x : TV)
  /-- nothing of its own: the object, if it has a block, lies at its beginning, and the block is of this type, with so many cells -/
  | fact (id ver : Nat) (t : TypeId) (m : Nat)
  /-- a loop over a function: its state, the jump that is pending; the function that it stands in, how many slots that has, what they hold; the parameters' slots, the code -/
  | lp (st : LoopState) (pend : Option Code) (fn : FuncId) (N : Nat) (e : List (Nat × TV)) (ps : List Nat) (ca cb : Code)
  /-- a map: its entries, by their keys' bytes -/
  | mpo (kk : MK) (es : List (List UInt8 × TV))
  /-- a row of bytes of its own, at the beginning of its block, which is of this type: what it holds -/
  | bld (ver : Nat) (t : TypeId) (l : List UInt8)
  deriving Inhabited

def Ob.ver : Ob → Nat
  | .obj v _ => v
  | .gone v => v
  | .ice v _ _ => v
  | .bld v _ _ => v
  | _ => 0
def Ob.live : Ob → Bool
  | .gone _ => false
  | .fact _ _ _ _ => false
  | _ => true

/-- Where the objects lie: of each number and version the block and the first cell (none: it has no cells, and lies nowhere); the objects; the blocks that stay as they are. -/
structure Ctx where
  β : Nat → Nat → Option (Nat × Nat)
  H : List Ob
  F : Nat → Prop

/-- Is this block one's own? -/
def Ctx.own (c : Ctx) (b : Nat) : Prop := ∃ id o off, c.H[id]? = some o ∧ o.live = true ∧ c.β id o.ver = some (b, off)
/-- Is it a number and a version that has been? -/
def Ctx.has (c : Ctx) (id ver : Nat) : Prop := ∃ o, c.H[id]? = some o ∧ ver ≤ o.ver
/-- Without any object. -/
def Ctx.bare (c : Ctx) : Ctx := ⟨c.β, [], c.F⟩

theorem Ctx.bare_has {c : Ctx} {id ver : Nat} : ¬ c.bare.has id ver := by rintro ⟨o, h, _⟩; simp [Ctx.bare] at h

/-- No cell of the row is barred. -/
def Bare (m : Nat) (fr : Nat × Nat) : Prop := ∀ o, o < m → ¬ (fr.1 ≤ o ∧ o < fr.2)

mutual
/-- How many cells. -/
def width : TV → Nat
  | .agg cs => widths cs
  | .arr n k _ => n * k
  | _ => 1
def widths : List TV → Nat
  | [] => 0
  | x :: xs => width x + widths xs
end

/-- Where a way ends: how many cells behind the beginning. -/
def span : List (Nat × Nat) → Nat
  | [] => 0
  | (_, d) :: p => d + span p

/-- The value that these cells make. -/
def mkV (x : TV) (us : List Value) : Value := match x with
  | .agg _ => .agg us.toArray
  | .arr _ _ _ => .agg us.toArray
  | _ => us.headD undef

/-- These cells lie there. -/
def CellsAt (w : World) (b off : Nat) (us : List Value) : Prop := ∀ (j : Nat) u, us[j]? = some u → w.cell? ⟨b, off + j, none⟩ = some u

mutual
/-- The cells are what is known of them. -/
def RepC (c : Ctx) (w : World) : TV → List Value → Prop
  | .val x, us => us = [x] ∧ x.oneCell' = true
  | .any, us => ∃ u, us = [u] ∧ u.oneCell' = true
  | .sl k cs, us => (∀ x ∈ cs, width x = k) ∧ ((cs = [] ∧ ∃ a cap, us = [.slice a 0 cap] ∧ cap ≤ 9223372036854775807) ∨
      ∃ b off cap vs, us = [.slice (some ⟨b, off, none⟩) cs.length cap] ∧ cs.length ≤ cap ∧ cap ≤ 9223372036854775807 ∧ c.F b ∧ RepCs c.bare w cs vs ∧ CellsAt w b off vs)
  | .fp x, us => ∃ b off vs, us = [.pointer (some ⟨b, off, none⟩)] ∧ c.F b ∧ RepC c.bare w x vs ∧ CellsAt w b off vs
  | .op id ver p, us => c.has id ver ∧ ∃ b o, c.β id ver = some (b, o) ∧ us = [.pointer (some ⟨b, o + span p, none⟩)]
  | .os k id ver p off n cp, us => c.has id ver ∧ ((n = 0 ∧ ∃ a, us = [.slice a 0 0] ∧ cp = 0 ∧ ∀ ad, a = some ad → (w.shape? ad.block).isSome = true) ∨ ∃ b o cap t m, c.β id ver = some (b, o) ∧ us = [.slice (some ⟨b, o + span p + off * k, none⟩) n cap] ∧ n ≤ cap ∧ cap ≤ 9223372036854775807 ∧
      w.shape? b = some (t, m) ∧ o + span p + off * k + cap * k ≤ m ∧ cp ≤ cap)
  | .agg cs, us => RepCs c w cs us
  | .arr n k cs, us => cs.length = n ∧ (∀ x ∈ cs, width x = k) ∧ RepCs c.bare w cs us
  | .tup cs, us => False
  | .ifc t x, us => ∃ u, us = [.iface t u] ∧ ∃ vs, RepC c w x vs ∧ u = mkV x vs
  | .fn f a b, us => ∃ as bs : List Value, us = [.func f as.toArray bs.toArray] ∧ RepL c w a as ∧ RepL c w b bs
  | .mp id ver, us => c.has id ver ∧ ∃ b o, c.β id ver = some (b, o) ∧ us = [.map (some b)]
  | .yl id ver, us => c.has id ver ∧ ∃ b o, c.β id ver = some (b, o) ∧ us = [.func (.yield b) #[] #[]]
/-- One behind the other. -/
def RepCs (c : Ctx) (w : World) : List TV → List Value → Prop
  | [], us => us = []
  | x :: xs, us => ∃ a b, us = a ++ b ∧ RepC c w x a ∧ RepCs c w xs b
/-- Values, one by one. -/
def RepL (c : Ctx) (w : World) : List TV → List Value → Prop
  | [], vs => vs = []
  | x :: xs, vs => ∃ u us, vs = u :: us ∧ (x = .any ∨ x = .val u ∨ ∃ as, RepC c w x as ∧ u = mkV x as) ∧ RepL c w xs us
end

/-- The value is what is known of it (no tuple). -/
def Rep1 (c : Ctx) (w : World) (x : TV) (v : Value) : Prop := x = .any ∨ x = .val v ∨ ∃ us, RepC c w x us ∧ v = mkV x us
/-- The value is what is known of it. -/
def Rep (c : Ctx) (w : World) (x : TV) (v : Value) : Prop := Rep1 c w x v ∨ ∃ xs vs, x = .tup xs ∧ v = .tuple vs.toArray ∧ RepL c w xs vs

theorem RepL.cons {c : Ctx} {w : World} {x : TV} {xs : List TV} {vs : List Value} : RepL c w (x :: xs) vs ↔ ∃ u us, vs = u :: us ∧ Rep1 c w x u ∧ RepL c w xs us := by rw [RepL]; rfl
theorem RepL.nil {c : Ctx} {w : World} {vs : List Value} : RepL c w [] vs ↔ vs = [] := by rw [RepL]
theorem Rep.any {c : Ctx} {w : World} {v : Value} : Rep c w .any v := .inl (.inl rfl)
theorem Rep.of_val {c : Ctx} {w : World} {v : Value} : Rep c w (.val v) v := .inl (.inr (.inl rfl))
theorem Rep.of_cells {c : Ctx} {w : World} {x : TV} {us : List Value} (h : RepC c w x us) : Rep c w x (mkV x us) := .inl (.inr (.inr ⟨us, h, rfl⟩))
theorem Rep.val {c : Ctx} {w : World} {x v : Value} : Rep c w (.val x) v ↔ v = x := by
  constructor
  · rintro ((h | h | ⟨us, h, rfl⟩) | ⟨_, _, h, _⟩)
    · cases h
    · cases h; rfl
    · rw [RepC] at h; rw [h.1]; rfl
    · cases h
  · rintro rfl; exact Rep.of_val
/-- May it be laid into cells? -/
def lays : TV → Bool
  | .any => false
  | .val v => v.oneCell'
  | .tup _ => false
  | _ => true

theorem RepCs.append {c : Ctx} {w : World} : ∀ {xs ys : List TV} {us vs : List Value}, RepCs c w xs us → RepCs c w ys vs → RepCs c w (xs ++ ys) (us ++ vs)
  | [], ys, us, vs, h, k => by rw [RepCs] at h; subst h; simpa using k
  | x :: xs, ys, us, vs, h, k => by
    rw [RepCs] at h
    obtain ⟨a, b, rfl, h1, h2⟩ := h
    rw [List.cons_append, RepCs]
    exact ⟨a, b ++ vs, by simp, h1, RepCs.append h2 k⟩
theorem RepCs.split {c : Ctx} {w : World} : ∀ {xs ys : List TV} {us : List Value}, RepCs c w (xs ++ ys) us → ∃ a b, us = a ++ b ∧ RepCs c w xs a ∧ RepCs c w ys b
  | [], ys, us, h => ⟨[], us, rfl, by rw [RepCs], h⟩
  | x :: xs, ys, us, h => by
    rw [List.cons_append, RepCs] at h
    obtain ⟨a, b, rfl, h1, h2⟩ := h
    obtain ⟨b1, b2, rfl, h3, h4⟩ := RepCs.split h2
    exact ⟨a ++ b1, b2, by simp, by rw [RepCs]; exact ⟨a, b1, rfl, h1, h3⟩, h4⟩

mutual
theorem RepC.length {c : Ctx} {w : World} : ∀ {x : TV} {us : List Value}, RepC c w x us → us.length = width x
  | .val y, us, h => by rw [RepC] at h; rw [h.1]; rfl
  | .any, us, h => by rw [RepC] at h; obtain ⟨u, h, _⟩ := h; rw [h]; rfl
  | .sl k cs, us, h => by
    rw [RepC] at h
    rcases h.2 with ⟨_, _, _, h, _⟩ | ⟨_, _, _, _, h, _⟩ <;> rw [h] <;> rfl
  | .fp x, us, h => by rw [RepC] at h; obtain ⟨_, _, _, h, _⟩ := h; rw [h]; rfl
  | .op id ver p, us, h => by rw [RepC] at h; obtain ⟨_, _, _, _, h⟩ := h; rw [h]; rfl
  | .os k id ver p off n cp, us, h => by rw [RepC] at h; rcases h with ⟨_, ⟨_, _, h, _⟩ | ⟨_, _, _, _, _, _, h, _⟩⟩ <;> rw [h] <;> rfl
  | .agg cs, us, h => by rw [RepC] at h; rw [width]; exact RepCs.length h
  | .arr n k cs, us, h => by
    rw [RepC] at h; rw [width, RepCs.length h.2.2, ← h.1]
    obtain ⟨_, h, _⟩ := h
    exact widths_all h
  | .tup cs, us, h => by rw [RepC] at h; exact h.elim
  | .ifc t x, us, h => by rw [RepC] at h; obtain ⟨_, h, _⟩ := h; rw [h]; rfl
  | .fn f a b, us, h => by rw [RepC] at h; obtain ⟨_, _, h, _⟩ := h; rw [h]; rfl
  | .mp id ver, us, h => by rw [RepC] at h; obtain ⟨_, _, _, _, h⟩ := h; rw [h]; rfl
  | .yl id ver, us, h => by rw [RepC] at h; obtain ⟨_, _, _, _, h⟩ := h; rw [h]; rfl
theorem RepCs.length {c : Ctx} {w : World} : ∀ {xs : List TV} {us : List Value}, RepCs c w xs us → us.length = widths xs
  | [], us, h => by rw [RepCs] at h; subst h; rfl
  | x :: xs, us, h => by
    rw [RepCs] at h
    obtain ⟨a, b, rfl, h1, h2⟩ := h
    rw [List.length_append, RepC.length h1, RepCs.length h2, widths]
theorem widths_all {k : Nat} : ∀ {xs : List TV}, (∀ x ∈ xs, width x = k) → widths xs = xs.length * k
  | [], _ => by simp [widths]
  | x :: xs, h => by
    rw [widths, h x (by simp), widths_all (fun y hy => h y (by simp [hy])), List.length_cons]
    rw [Nat.add_mul]; omega
end

/-- What a reading needs to stay true. -/
structure Mono (c : Ctx) (w : World) (c' : Ctx) (w' : World) : Prop where
  stay : ∀ b, c.F b → c'.F b ∧ w'.heap[b]? = w.heap[b]?
  has : ∀ id ver, c.has id ver → c'.has id ver ∧ c'.β id ver = c.β id ver
  shape : ∀ b, b < w.heap.size → w'.shape? b = w.shape? b

theorem Mono.bare {c c' : Ctx} {w w' : World} (h : Mono c w c' w') : Mono c.bare w c'.bare w' := ⟨h.stay, fun _ _ k => (Ctx.bare_has k).elim, h.shape⟩

theorem shape_lt {w : World} {b : Nat} {x : TypeId × Nat} (h : w.shape? b = some x) : b < w.heap.size := by
  unfold World.shape? at h
  rcases Nat.lt_or_ge b w.heap.size with h1 | h1
  · exact h1
  · rw [Array.getElem?_eq_none h1] at h; cases h

theorem CellsAt.block {w w' : World} {b off : Nat} {us : List Value} (hb : w'.heap[b]? = w.heap[b]?) (h : CellsAt w b off us) : CellsAt w' b off us :=
  fun j u hj => by rw [World.cell?_of_block (w := w) hb]; exact h j u hj

mutual
theorem RepC.mono {c c' : Ctx} {w w' : World} (h : Mono c w c' w') : ∀ {x : TV} {us : List Value}, RepC c w x us → RepC c' w' x us
  | .val y, us, hr => by rw [RepC] at hr ⊢; exact hr
  | .any, us, hr => by rw [RepC] at hr ⊢; exact hr
  | .sl k cs, us, hr => by
    rw [RepC] at hr ⊢
    obtain ⟨hk, hr⟩ := hr
    refine ⟨hk, ?_⟩
    rcases hr with hr | ⟨b, off, cap, vs, h1, h2, h3, h4, h5, h6⟩
    · exact .inl hr
    · exact .inr ⟨b, off, cap, vs, h1, h2, h3, (h.stay b h4).1, RepCs.mono h.bare h5, h6.block (h.stay b h4).2⟩
  | .fp x, us, hr => by
    rw [RepC] at hr ⊢
    obtain ⟨b, off, vs, h1, h4, h5, h6⟩ := hr
    exact ⟨b, off, vs, h1, (h.stay b h4).1, RepC.mono h.bare h5, h6.block (h.stay b h4).2⟩
  | .op id ver p, us, hr => by
    rw [RepC] at hr ⊢
    obtain ⟨h1, h2⟩ := hr
    obtain ⟨k1, k2⟩ := h.has id ver h1
    exact ⟨k1, by rw [k2]; exact h2⟩
  | .os k id ver p off n cp, us, hr => by
    rw [RepC] at hr ⊢
    obtain ⟨h1, hr⟩ := hr
    obtain ⟨k1, k2⟩ := h.has id ver h1
    refine ⟨k1, ?_⟩
    rcases hr with ⟨z1, a, z2, z3, z4⟩ | ⟨b, o, cap, t, m, h2, h3, h4, h5, h6, h7⟩
    · refine .inl ⟨z1, a, z2, z3, fun ad ha => ?_⟩
      have z5 := z4 ad ha
      obtain ⟨s, z6⟩ := Option.isSome_iff_exists.1 z5
      rw [h.shape _ (shape_lt z6)]; exact z5
    · exact .inr ⟨b, o, cap, t, m, by rw [k2]; exact h2, h3, h4, h5, (h.shape _ (shape_lt h6)).trans h6, h7⟩
  | .agg cs, us, hr => by rw [RepC] at hr ⊢; exact RepCs.mono h hr
  | .arr n k cs, us, hr => by rw [RepC] at hr ⊢; exact ⟨hr.1, hr.2.1, RepCs.mono h.bare hr.2.2⟩
  | .tup cs, us, hr => by rw [RepC] at hr; exact hr.elim
  | .ifc t x, us, hr => by
    rw [RepC] at hr ⊢
    obtain ⟨u, h1, vs, h2, h3⟩ := hr
    exact ⟨u, h1, vs, RepC.mono h h2, h3⟩
  | .fn f a b, us, hr => by
    rw [RepC] at hr ⊢
    obtain ⟨as, bs, h1, h2, h3⟩ := hr
    exact ⟨as, bs, h1, RepL.mono h h2, RepL.mono h h3⟩
  | .mp id ver, us, hr => by
    rw [RepC] at hr ⊢
    obtain ⟨h1, h2⟩ := hr
    obtain ⟨k1, k2⟩ := h.has id ver h1
    exact ⟨k1, by rw [k2]; exact h2⟩
  | .yl id ver, us, hr => by
    rw [RepC] at hr ⊢
    obtain ⟨h1, h2⟩ := hr
    obtain ⟨k1, k2⟩ := h.has id ver h1
    exact ⟨k1, by rw [k2]; exact h2⟩
theorem RepCs.mono {c c' : Ctx} {w w' : World} (h : Mono c w c' w') : ∀ {xs : List TV} {us : List Value}, RepCs c w xs us → RepCs c' w' xs us
  | [], us, hr => by rw [RepCs] at hr ⊢; exact hr
  | x :: xs, us, hr => by
    rw [RepCs] at hr ⊢
    obtain ⟨a, b, h1, h2, h3⟩ := hr
    exact ⟨a, b, h1, RepC.mono h h2, RepCs.mono h h3⟩
theorem RepL.mono {c c' : Ctx} {w w' : World} (h : Mono c w c' w') : ∀ {xs : List TV} {vs : List Value}, RepL c w xs vs → RepL c' w' xs vs
  | [], vs, hr => by rw [RepL] at hr ⊢; exact hr
  | x :: xs, vs, hr => by
    rw [RepL] at hr ⊢
    obtain ⟨u, us, h1, h2, h3⟩ := hr
    refine ⟨u, us, h1, ?_, RepL.mono h h3⟩
    rcases h2 with h2 | h2 | ⟨as, h2, h4⟩
    · exact .inl h2
    · exact .inr (.inl h2)
    · exact .inr (.inr ⟨as, RepC.mono h h2, h4⟩)
end
theorem Rep1.mono {c c' : Ctx} {w w' : World} (h : Mono c w c' w') {x : TV} {v : Value} (hr : Rep1 c w x v) : Rep1 c' w' x v :=
  hr.imp id fun hr => hr.imp id fun ⟨us, h1, h2⟩ => ⟨us, RepC.mono h h1, h2⟩
theorem Rep.mono {c c' : Ctx} {w w' : World} (h : Mono c w c' w') {x : TV} {v : Value} (hr : Rep c w x v) : Rep c' w' x v :=
  hr.imp (Rep1.mono h) fun ⟨xs, vs, h1, h2, h3⟩ => ⟨xs, vs, h1, h2, RepL.mono h h3⟩

theorem mkV_one {x : TV} {u : Value} (ha : ∀ cs, x ≠ .agg cs) (hb : ∀ n k cs, x ≠ .arr n k cs) : mkV x [u] = u := by
  cases x <;> first | rfl | exact absurd rfl (ha _) | exact absurd rfl (hb _ _ _)
theorem cells_one {u : Value} (h : u.oneCell' = true) : u.cells = #[u] := by cases u <;> first | rfl | simp [Value.oneCell'] at h

mutual
/-- Each is one cell. -/
theorem RepC.one {c : Ctx} {w : World} : ∀ {x : TV} {us : List Value}, RepC c w x us → ∀ u ∈ us, u.oneCell' = true
  | .val y, us, h => by rw [RepC] at h; rw [h.1]; simpa using h.2
  | .any, us, h => by rw [RepC] at h; obtain ⟨u, rfl, h⟩ := h; simpa using h
  | .sl k cs, us, h => by
    rw [RepC] at h
    rcases h.2 with ⟨_, _, _, h, _⟩ | ⟨_, _, _, _, h, _⟩ <;> subst h <;> simp [Value.oneCell']
  | .fp x, us, h => by rw [RepC] at h; obtain ⟨_, _, _, h, _⟩ := h; subst h; simp [Value.oneCell']
  | .op id ver p, us, h => by rw [RepC] at h; obtain ⟨_, _, _, _, h⟩ := h; subst h; simp [Value.oneCell']
  | .os k id ver p off n cp, us, h => by rw [RepC] at h; rcases h with ⟨_, ⟨_, _, h, _⟩ | ⟨_, _, _, _, _, _, h, _⟩⟩ <;> subst h <;> simp [Value.oneCell']
  | .agg cs, us, h => by rw [RepC] at h; exact RepCs.one h
  | .arr n k cs, us, h => by rw [RepC] at h; exact RepCs.one h.2.2
  | .tup cs, us, h => by rw [RepC] at h; exact h.elim
  | .ifc t x, us, h => by rw [RepC] at h; obtain ⟨_, h, _⟩ := h; subst h; simp [Value.oneCell']
  | .fn f a b, us, h => by rw [RepC] at h; obtain ⟨_, _, h, _⟩ := h; subst h; simp [Value.oneCell']
  | .mp id ver, us, h => by rw [RepC] at h; obtain ⟨_, _, _, _, h⟩ := h; subst h; simp [Value.oneCell']
  | .yl id ver, us, h => by rw [RepC] at h; obtain ⟨_, _, _, _, h⟩ := h; subst h; simp [Value.oneCell']
theorem RepCs.one {c : Ctx} {w : World} : ∀ {xs : List TV} {us : List Value}, RepCs c w xs us → ∀ u ∈ us, u.oneCell' = true
  | [], us, h => by rw [RepCs] at h; subst h; simp
  | x :: xs, us, h => by
    rw [RepCs] at h
    obtain ⟨a, b, rfl, h1, h2⟩ := h
    intro u hu
    rcases List.mem_append.1 hu with hu | hu
    · exact RepC.one h1 u hu
    · exact RepCs.one h2 u hu
end

/-- What may be laid into cells, laid. -/
theorem Rep.cells {c : Ctx} {w : World} {x : TV} {v : Value} (h : Rep c w x v) (hl : lays x = true) : RepC c w x v.cells.toList := by
  rcases h with (h | h | ⟨us, h, rfl⟩) | ⟨xs, vs, h, _⟩
  · subst h; simp [lays] at hl
  · subst h
    rw [RepC]
    exact ⟨by rw [cells_one hl], hl⟩
  · cases x with
    | agg cs => simpa [mkV, Value.cells] using h
    | arr n k cs => simpa [mkV, Value.cells] using h
    | tup cs => rw [RepC] at h; exact h.elim
    | _ =>
      have hlen := h.length
      simp only [width] at hlen
      obtain ⟨u, rfl⟩ := List.length_eq_one_iff.1 hlen
      have h1 := h.one u (by simp)
      simpa [mkV, cells_one h1] using h
  · subst h; simp [lays] at hl

/-- What becomes of a world: what is not one's own stays; numbers stay where they are. -/
structure Later (c : Ctx) (w : World) (c' : Ctx) (w' : World) : Prop where
  os : w'.os = w.os
  tape : w'.tape = w.tape
  output : w'.output = w.output
  size : w.heap.size ≤ w'.heap.size
  has : ∀ id ver, c.has id ver → c'.has id ver ∧ c'.β id ver = c.β id ver
  shape : ∀ b, b < w.heap.size → w'.shape? b = w.shape? b
  same : ∀ b, b < w.heap.size → ¬ c.own b → w'.heap[b]? = w.heap[b]?
  keepF : ∀ b, c.F b → c'.F b
  oldF : ∀ b, b < w.heap.size → c'.F b → c.F b ∨ c.own b
  oldOwn : ∀ b, b < w.heap.size → c'.own b → c.own b

theorem Later.refl (c : Ctx) (w : World) : Later c w c w := ⟨rfl, rfl, rfl, Nat.le_refl _, fun _ _ h => ⟨h, rfl⟩, fun _ _ => rfl, fun _ _ _ => rfl, fun _ h => h, fun _ _ h => .inl h, fun _ _ h => h⟩
theorem Later.trans {c c' c'' : Ctx} {w w' w'' : World} (h : Later c w c' w') (k : Later c' w' c'' w'') : Later c w c'' w'' where
  os := k.os.trans h.os
  tape := k.tape.trans h.tape
  output := k.output.trans h.output
  size := Nat.le_trans h.size k.size
  has id ver hh := ⟨(k.has id ver (h.has id ver hh).1).1, (k.has id ver (h.has id ver hh).1).2.trans (h.has id ver hh).2⟩
  shape b hb := (k.shape b (Nat.lt_of_lt_of_le hb h.size)).trans (h.shape b hb)
  same b hb ho := (k.same b (Nat.lt_of_lt_of_le hb h.size) fun h' => ho (h.oldOwn b hb h')).trans (h.same b hb ho)
  keepF b hb := k.keepF b (h.keepF b hb)
  oldF b hb hF := (k.oldF b (Nat.lt_of_lt_of_le hb h.size) hF).elim (h.oldF b hb) fun h' => .inr (h.oldOwn b hb h')
  oldOwn b hb ho := h.oldOwn b hb (k.oldOwn b (Nat.lt_of_lt_of_le hb h.size) ho)

abbrev Env := List (Nat × TV)
def get : Env → Nat → TV
  | [], _ => .any
  | (k, x) :: e, s => if k = s then x else get e s
/-- A map's entries are what is known of them. -/
def EntsOk (c : Ctx) (w : World) (kk : MK) : List (List UInt8 × TV) → List MapEntry → Prop
  | [], ms => ms = []
  | (k, x) :: es, ms => ∃ m r, ms = m :: r ∧ (m.key = kVal kk k ∧ kOk kk k) ∧ (RepC c w x m.val.cells.toList ∧ m.val = mkV x m.val.cells.toList) ∧ EntsOk c w kk es r
theorem EntsOk.mono {c c' : Ctx} {w w' : World} (h : Mono c w c' w') {kk : MK} : ∀ {es : List (List UInt8 × TV)} {ms : List MapEntry}, EntsOk c w kk es ms → EntsOk c' w' kk es ms
  | [], ms, k => k
  | (q, x) :: es, ms, k => by
    obtain ⟨m, r, rfl, h1, h2, h3⟩ := k
    exact ⟨m, r, rfl, h1, ⟨RepC.mono h h2.1, h2.2⟩, EntsOk.mono h h3⟩

/-- The object lies there, and holds what is known of it. -/
def ObIs (c : Ctx) (w : World) (id : Nat) (o : Ob) : Prop :=
  match o with
  | .obj ver x => (c.β id ver = none ∧ RepC c w x []) ∨ ∃ (b off : Nat) (pre vs post : List Value) (t : TypeId) (fr : Nat × Nat), c.β id ver = some (b, off) ∧ w.heap[b]? = some (.cells (pre ++ vs ++ post).toArray t fr) ∧
      Bare (pre ++ vs ++ post).length fr ∧ pre.length = off ∧ RepC c w x vs
  | .gone _ => True
  | .ice ver m x => ∃ (b off : Nat) (pre vs post : List Value) (t : TypeId) (fr : Nat × Nat), c.β id ver = some (b, off) ∧ w.heap[b]? = some (.cells (pre ++ vs ++ post).toArray t fr) ∧ fr.2 ≤ pre.length + m ∧ pre.length = off ∧ RepC c w x vs
  | .fact i ver t m => c.has i ver ∧ ∀ b o, c.β i ver = some (b, o) → o = 0 ∧ w.shape? b = some (t, m)
  | .bld ver t l => (c.β id ver = none ∧ l = []) ∨ ∃ (b : Nat) (post : List Value) (fr : Nat × Nat), c.β id ver = some (b, 0) ∧ w.heap[b]? = some (.cells ((l.map fun x : UInt8 => Value.int .u8 x.toNat) ++ post).toArray t fr) ∧ Bare ((l.map fun x : UInt8 => Value.int .u8 x.toNat) ++ post).length fr
  | .lp st pend fn N e ps ca cb => ∃ (b : Nat) (tmps : Array Value) (D : Nat), c.β id 0 = some (b, 0) ∧ w.heap[b]? = some (.loop { state := st, pending := pend, fn := fn, tmps := tmps, params := ps.toArray, assign := ca, body := cb, defers := D }) ∧ tmps.size = N ∧ ∀ s, Rep c w (get e s) (tmps.getD s undef)
  | .mpo kk es => ∃ (b : Nat) (ms : Array MapEntry) (clock : Nat), c.β id 0 = some (b, 0) ∧ w.heap[b]? = some (.map ms clock) ∧ EntsOk c w kk es ms.toList ∧ clock = ms.size ∧ ms.toList.map (·.born) = List.range ms.size

def globOf (g : Nat) : Option GV := (globs.find? fun p => p.1 == g).map (·.2)
/-- The known package variables are as they were. -/
def GlobOk (F : Nat → Prop) (w : World) : Prop := ∀ g x, globOf g = some x → F g ∧ CellsAt w g 0 x.cells
theorem GlobOk.keep {F F' : Nat → Prop} {w w' : World} (h : GlobOk F w) (hk : ∀ b, F b → F' b ∧ w'.heap[b]? = w.heap[b]?) : GlobOk F' w' := fun g x e =>
  ⟨(hk g (h g x e).1).1, (h g x e).2.block (hk g (h g x e).1).2⟩
theorem globOf_ok {g : Nat} {x : GV} (h : globOf g = some x) : x.ok = true := by
  unfold globOf at h
  obtain ⟨p, hp, rfl⟩ := Option.map_eq_some_iff.1 h
  exact List.all_eq_true.1 globs_ok p (List.mem_of_find?_eq_some hp)

/-- The world has these objects. -/
structure Sim (c : Ctx) (w : World) : Prop where
  ob : ∀ id o, c.H[id]? = some o → ObIs c w id o
  inj : ∀ i j x y b o o', c.H[i]? = some x → c.H[j]? = some y → x.live = true → y.live = true → c.β i x.ver = some (b, o) → c.β j y.ver = some (b, o') → i = j
  apart : ∀ b, c.own b → ¬ c.F b
  lt : ∀ b, c.F b → b < w.heap.size
  glob : GlobOk c.F w

theorem Later.mono {c c' : Ctx} {w w' : World} (hs : Sim c w) (h : Later c w c' w') : Mono c w c' w' :=
  ⟨fun b hb => ⟨h.keepF b hb, h.same b (hs.lt b hb) fun ho => hs.apart b ho hb⟩, h.has, h.shape⟩

theorem Sim.own_lt {c : Ctx} {w : World} (h : Sim c w) {b : Nat} (hb : c.own b) : b < w.heap.size := by
  obtain ⟨id, o, off, h1, h2, h3⟩ := hb
  have := h.ob id o h1
  cases o with
  | gone v => simp [Ob.live] at h2
  | fact i v t m => simp [Ob.live] at h2
  | ice v m x =>
    obtain ⟨b', off', pre, vs, post, t, fr, k, hh, _⟩ := this
    have h3' : c.β id v = some (b, off) := h3
    rw [h3'] at k; cases k
    exact (Array.getElem?_eq_some_iff.1 hh).1
  | bld v t l =>
    have h3' : c.β id v = some (b, off) := h3
    rcases this with ⟨k, _⟩ | ⟨b', post, fr, k, hh, _⟩
    · rw [h3'] at k; cases k
    · rw [h3'] at k; cases k
      exact (Array.getElem?_eq_some_iff.1 hh).1
  | lp st pend fn N e ps ca cb =>
    obtain ⟨b', tmps, D, k, hh, _⟩ := this
    have h3' : c.β id 0 = some (b, off) := h3
    rw [h3'] at k; cases k
    exact (Array.getElem?_eq_some_iff.1 hh).1
  | mpo kk es =>
    obtain ⟨b', ms, cl, k, hh, _⟩ := this
    have h3' : c.β id 0 = some (b, off) := h3
    rw [h3'] at k; cases k
    exact (Array.getElem?_eq_some_iff.1 hh).1
  | obj v x =>
    have h3' : c.β id v = some (b, off) := h3
    rcases this with ⟨k, _⟩ | ⟨b', off', pre, vs, post, t, fr, k, hh, _⟩
    · rw [h3'] at k; cases k
    · rw [h3'] at k; cases k
      exact (Array.getElem?_eq_some_iff.1 hh).1

mutual
/-- It refers to no object of one's own. -/
def pureT : TV → Bool
  | .val _ | .any | .sl _ _ | .fp _ | .arr _ _ _ => true
  | .agg cs => pureL cs
  | .tup cs => pureL cs
  | .ifc _ x => pureT x
  | .fn _ a b => pureL a && pureL b
  | _ => false
def pureL : List TV → Bool
  | [] => true
  | x :: xs => pureT x && pureL xs
end
mutual
theorem RepC.pure {c : Ctx} {w : World} : ∀ {x : TV} {us : List Value}, pureT x = true → RepC c w x us → RepC c.bare w x us
  | .val y, us, hf, hr => by rw [RepC] at hr ⊢; exact hr
  | .any, us, hf, hr => by rw [RepC] at hr ⊢; exact hr
  | .mp _ _, us, hf, hr => by simp [pureT] at hf
  | .yl _ _, us, hf, hr => by simp [pureT] at hf
  | .sl k cs, us, hf, hr => by rw [RepC] at hr ⊢; exact hr
  | .fp x, us, hf, hr => by rw [RepC] at hr ⊢; exact hr
  | .op id ver p, us, hf, hr => by simp [pureT] at hf
  | .os k id ver p off n cp, us, hf, hr => by simp [pureT] at hf
  | .agg cs, us, hf, hr => by rw [pureT] at hf; rw [RepC] at hr ⊢; exact RepCs.pure hf hr
  | .arr n k cs, us, hf, hr => by rw [RepC] at hr ⊢; exact hr
  | .tup cs, us, hf, hr => by rw [RepC] at hr; exact hr.elim
  | .ifc t x, us, hf, hr => by
    rw [pureT] at hf; rw [RepC] at hr ⊢
    obtain ⟨u, h1, vs, h2, h3⟩ := hr
    exact ⟨u, h1, vs, RepC.pure hf h2, h3⟩
  | .fn f a b, us, hf, hr => by
    rw [pureT, Bool.and_eq_true] at hf; rw [RepC] at hr ⊢
    obtain ⟨as, bs, h1, h2, h3⟩ := hr
    exact ⟨as, bs, h1, RepL.pure hf.1 h2, RepL.pure hf.2 h3⟩
theorem RepCs.pure {c : Ctx} {w : World} : ∀ {xs : List TV} {us : List Value}, pureL xs = true → RepCs c w xs us → RepCs c.bare w xs us
  | [], us, hf, hr => by rw [RepCs] at hr ⊢; exact hr
  | x :: xs, us, hf, hr => by
    rw [pureL, Bool.and_eq_true] at hf; rw [RepCs] at hr ⊢
    obtain ⟨a, b, h1, h2, h3⟩ := hr
    exact ⟨a, b, h1, RepC.pure hf.1 h2, RepCs.pure hf.2 h3⟩
theorem RepL.pure {c : Ctx} {w : World} : ∀ {xs : List TV} {us : List Value}, pureL xs = true → RepL c w xs us → RepL c.bare w xs us
  | [], us, hf, hr => by rw [RepL] at hr ⊢; exact hr
  | x :: xs, us, hf, hr => by
    rw [pureL, Bool.and_eq_true] at hf; rw [RepL] at hr ⊢
    obtain ⟨u, us, h1, h2, h3⟩ := hr
    refine ⟨u, us, h1, ?_, RepL.pure hf.2 h3⟩
    rcases h2 with h2 | h2 | ⟨as, h2, h4⟩
    · exact .inl h2
    · exact .inr (.inl h2)
    · exact .inr (.inr ⟨as, RepC.pure hf.1 h2, h4⟩)
end
theorem Rep.pure {c : Ctx} {w : World} {x : TV} {v : Value} (hp : pureT x = true) (h : Rep c w x v) : Rep c.bare w x v := by
  rcases h with (h | h | ⟨us, h, h'⟩) | ⟨xs, vs, rfl, h2, h3⟩
  · exact .inl (.inl h)
  · exact .inl (.inr (.inl h))
  · exact .inl (.inr (.inr ⟨us, RepC.pure hp h, h'⟩))
  · exact .inr ⟨xs, vs, rfl, h2, RepL.pure (by rw [pureT] at hp; exact hp) h3⟩
theorem Mono.toBare {β : Nat → Nat → Option (Nat × Nat)} {F : Nat → Prop} {w : World} (H : List Ob) (β' : Nat → Nat → Option (Nat × Nat)) : Mono ⟨β, [], F⟩ w ⟨β', H, F⟩ w :=
  ⟨fun b hb => ⟨hb, rfl⟩, fun id v h => by obtain ⟨o, h, _⟩ := h; simp at h, fun _ _ => rfl⟩
/-- What holds without objects holds with any. -/
theorem Rep.unbare {c : Ctx} {w : World} {x : TV} {v : Value} (h : Rep c.bare w x v) : Rep c w x v := Rep.mono (Mono.toBare c.H c.β) h
theorem RepC.unbare {c : Ctx} {w : World} {x : TV} {v : List Value} (h : RepC c.bare w x v) : RepC c w x v := RepC.mono (Mono.toBare c.H c.β) h
theorem RepCs.unbare {c : Ctx} {w : World} {x : List TV} {v : List Value} (h : RepCs c.bare w x v) : RepCs c w x v := RepCs.mono (Mono.toBare c.H c.β) h
theorem RepL.unbare {c : Ctx} {w : World} {xs : List TV} {vs : List Value} (h : RepL c.bare w xs vs) : RepL c w xs vs := RepL.mono (Mono.toBare c.H c.β) h

end Go.Proofs.Ytknphdcjopaaoaa
