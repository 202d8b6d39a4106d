/- What becomes of the objects of one's own: made, written, given away. No program in sight. -/
import Derived.Test.YtknphdcjopaaoaaVmA
namespace Go.Proofs.Ytknphdcjopaaoaa
open Go.RowKit
set_option linter.unusedVariables false
set_option autoImplicit false

def upd (β : Nat → Nat → Option (Nat × Nat)) (id ver : Nat) (p : Option (Nat × Nat)) : Nat → Nat → Option (Nat × Nat) := fun i v => if i = id ∧ v = ver then p else β i v
theorem upd_same {β : Nat → Nat → Option (Nat × Nat)} {id ver : Nat} {p : Option (Nat × Nat)} : upd β id ver p id ver = p := by simp [upd]
theorem upd_other {β : Nat → Nat → Option (Nat × Nat)} {id ver i v : Nat} {p : Option (Nat × Nat)} (h : ¬ (i = id ∧ v = ver)) : upd β id ver p i v = β i v := if_neg h

theorem cell_lt {w : World} {a : Addr} {v : Value} (h : w.cell? a = some v) : a.block < w.heap.size := World.block_lt_of_cell? w a h

theorem Mono.heap {c : Ctx} {w w' : World} (h : w'.heap = w.heap) : Mono c w c w' :=
  ⟨fun b hb => ⟨hb, by rw [h]⟩, fun _ _ k => ⟨k, rfl⟩, fun b _ => by simp [World.shape?, h]⟩

/-- An object stays what it is where its block and the readings stay. -/
theorem ObIs.mono {c c' : Ctx} {w w' : World} (h : Mono c w c' w') {id : Nat} {o : Ob} (hh : c.has id o.ver) (hb : o.live = true → ∀ b off, c.β id o.ver = some (b, off) → w'.heap[b]? = w.heap[b]?) (ho : ObIs c w id o) : ObIs c' w' id o := by
  have e := (h.has id o.ver hh).2
  cases o with
  | gone v => trivial
  | ice v m x =>
    have e' : c'.β id v = c.β id v := e
    obtain ⟨b, off, pre, vs, post, t, fr, h0, h1, h2, h3, h4⟩ := ho
    exact ⟨b, off, pre, vs, post, t, fr, e'.trans h0, (hb rfl b off h0).trans h1, h2, h3, RepC.mono h h4⟩
  | fact i v t m =>
    obtain ⟨h0, h1⟩ := ho
    obtain ⟨k0, k1⟩ := h.has i v h0
    refine ⟨k0, fun b o e => ?_⟩
    rw [k1] at e
    obtain ⟨rfl, h2⟩ := h1 b o e
    exact ⟨rfl, (h.shape b (shape_lt h2)).trans h2⟩
  | bld v t l =>
    have e' : c'.β id v = c.β id v := e
    rcases ho with ⟨h0, h4⟩ | ⟨b, post, fr, h0, h1, h2⟩
    · exact .inl ⟨e'.trans h0, h4⟩
    · exact .inr ⟨b, post, fr, e'.trans h0, (hb rfl b 0 h0).trans h1, h2⟩
  | lp st pend fn N en ps ca cb =>
    have e' : c'.β id 0 = c.β id 0 := e
    obtain ⟨b, tmps, D, h0, h1, h2, h3⟩ := ho
    exact ⟨b, tmps, D, e'.trans h0, (hb rfl b 0 h0).trans h1, h2, fun s => Rep.mono h (h3 s)⟩
  | mpo kk es =>
    have e' : c'.β id 0 = c.β id 0 := e
    obtain ⟨b, ms, cl, h0, h1, h2, h3⟩ := ho
    exact ⟨b, ms, cl, e'.trans h0, (hb rfl b 0 h0).trans h1, EntsOk.mono h h2, h3⟩
  | obj v x =>
    have e' : c'.β id v = c.β id v := e
    rcases ho with ⟨h0, h4⟩ | ⟨b, off, pre, vs, post, t, fr, h0, h1, h2, h3, h4⟩
    · exact .inl ⟨e'.trans h0, RepC.mono h h4⟩
    · exact .inr ⟨b, off, pre, vs, post, t, fr, e'.trans h0, (hb rfl b off h0).trans h1, h2, h3, RepC.mono h h4⟩

theorem Ctx.has_of {c : Ctx} {id : Nat} {o : Ob} (h : c.H[id]? = some o) : c.has id o.ver := ⟨o, h, Nat.le_refl _⟩
theorem Ctx.own_of {c : Ctx} {id : Nat} {o : Ob} (h : c.H[id]? = some o) (hl : o.live = true) {b off : Nat} (hb : c.β id o.ver = some (b, off)) : c.own b := ⟨id, o, off, h, hl, hb⟩

/-- The heap is the same. -/
theorem Sim.heap {c : Ctx} {w w' : World} (h : Sim c w) (e : w'.heap = w.heap) : Sim c w' :=
  ⟨fun id o ho => ObIs.mono (Mono.heap e) (Ctx.has_of ho) (fun _ _ _ _ => by rw [e]) (h.ob id o ho), h.inj, h.apart, fun b hb => by rw [e]; exact h.lt b hb, h.glob.keep fun b hb => ⟨hb, by rw [e]⟩⟩
theorem Later.heap {c : Ctx} {w w' : World} (e : w'.heap = w.heap) (h1 : w'.os = w.os) (h2 : w'.tape = w.tape) (h3 : w'.output = w.output) : Later c w c w' :=
  ⟨h1, h2, h3, by rw [e]; exact Nat.le_refl _, fun _ _ h => ⟨h, rfl⟩, fun b _ => by simp [World.shape?, e], fun b _ _ => by rw [e], fun _ h => h, fun _ _ h => .inl h, fun _ _ h => h⟩

theorem alloc_old (w : World) (o : Obj) {b : Nat} (h : b < w.heap.size) : (w.alloc o).heap[b]? = w.heap[b]? := Below.heap_alloc w o b h
theorem shape_of_block {w w' : World} {b : Nat} (h : w'.heap[b]? = w.heap[b]?) : w'.shape? b = w.shape? b := by simp [World.shape?, h]

section new
variable {β : Nat → Nat → Option (Nat × Nat)} {H : List Ob} {F : Nat → Prop} {w : World}

theorem Ctx.has_lt {c : Ctx} {id ver : Nat} (h : c.has id ver) : id < c.H.length := by
  obtain ⟨o, h1, _⟩ := h
  exact (List.getElem?_eq_some_iff.1 h1).1

/-- A new object's number. -/
theorem mono_new (hs : Sim ⟨β, H, F⟩ w) (o : Ob) (p : Option (Nat × Nat)) (w' : World) (hb : ∀ b, b < w.heap.size → w'.heap[b]? = w.heap[b]?) :
    Mono ⟨β, H, F⟩ w ⟨upd β H.length o.ver p, H ++ [o], F⟩ w' :=
  ⟨fun b hF => ⟨hF, hb b (hs.lt b hF)⟩, fun id ver hh => by
    have hlt := Ctx.has_lt hh
    have hlt' : id < H.length := hlt
    obtain ⟨x, h1, h2⟩ := hh
    exact ⟨⟨x, by simpa [List.getElem?_append_left hlt'] using h1, h2⟩, upd_other (by omega)⟩, fun b h => shape_of_block (hb b h)⟩

/-- A new object: its block is new, or it has none. -/
theorem Sim.new {w' : World} (hs : Sim ⟨β, H, F⟩ w) (o : Ob) (hv : o.ver = 0) (p : Option (Nat × Nat)) (hp : ∀ b off, p = some (b, off) → w.heap.size ≤ b) (h1 : w'.os = w.os) (h2 : w'.tape = w.tape) (h3 : w'.output = w.output)
    (hz : w.heap.size ≤ w'.heap.size) (hb : ∀ b, b < w.heap.size → w'.heap[b]? = w.heap[b]?)
    (ho : Mono ⟨β, H, F⟩ w ⟨upd β H.length 0 p, H ++ [o], F⟩ w' → ObIs ⟨upd β H.length 0 p, H ++ [o], F⟩ w' H.length o) :
    Sim ⟨upd β H.length 0 p, H ++ [o], F⟩ w' ∧ Later ⟨β, H, F⟩ w ⟨upd β H.length 0 p, H ++ [o], F⟩ w' := by
  have hm := mono_new hs o p w' hb
  rw [hv] at hm
  have hget : ∀ id y, (H ++ [o])[id]? = some y → (id < H.length ∧ H[id]? = some y) ∨ (id = H.length ∧ y = o) := by
    intro id y h
    rcases Nat.lt_trichotomy id H.length with h1 | h1 | h1
    · exact .inl ⟨h1, by rwa [List.getElem?_append_left h1] at h⟩
    · subst h1; simp at h; exact .inr ⟨rfl, h.symm⟩
    · rw [List.getElem?_eq_none (by simp; omega)] at h; cases h
  have hβ : ∀ id y, H[id]? = some y → upd β H.length 0 p id y.ver = β id y.ver := fun id y h => (hm.has id y.ver ⟨y, h, Nat.le_refl _⟩).2
  have hown : ∀ b, Ctx.own ⟨upd β H.length 0 p, H ++ [o], F⟩ b → Ctx.own ⟨β, H, F⟩ b ∨ w.heap.size ≤ b := by
    rintro b ⟨id, y, off, h1, h2, h3⟩
    rcases hget id y h1 with ⟨h4, h5⟩ | ⟨rfl, rfl⟩
    · exact .inl ⟨id, y, off, h5, h2, by show β id y.ver = _; rw [← hβ id y h5]; exact h3⟩
    · right
      have h3' : upd β H.length 0 p H.length y.ver = some (b, off) := h3
      rw [hv, upd_same] at h3'
      exact hp b off h3'
  refine ⟨⟨fun id y hy => ?_, fun i j x y b o1 o2 hx hy hlx hly e1 e2 => ?_, fun b hb hF => ?_, fun b hF => Nat.lt_of_lt_of_le (hs.lt b hF) hz, hs.glob.keep hm.stay⟩, ?_⟩
  · rcases hget id y hy with ⟨h4, h5⟩ | ⟨rfl, rfl⟩
    · exact ObIs.mono hm ⟨y, h5, Nat.le_refl _⟩ (fun hl b off hbo => hb b (hs.own_lt ⟨id, y, off, h5, hl, hbo⟩)) (hs.ob id y h5)
    · exact ho hm
  · have e1' : upd β H.length 0 p i x.ver = some (b, o1) := e1
    have e2' : upd β H.length 0 p j y.ver = some (b, o2) := e2
    rcases hget i x hx with ⟨h4, h5⟩ | ⟨rfl, rfl⟩ <;> rcases hget j y hy with ⟨k4, k5⟩ | ⟨rfl, rfl⟩
    · rw [hβ i x h5] at e1'; rw [hβ j y k5] at e2'
      exact hs.inj i j x y b o1 o2 h5 k5 hlx hly e1' e2'
    · exfalso
      rw [hβ i x h5] at e1'; rw [hv, upd_same] at e2'
      have := hs.own_lt ⟨i, x, o1, h5, hlx, e1'⟩
      have := hp b o2 e2'; omega
    · exfalso
      rw [hβ j y k5] at e2'; rw [hv, upd_same] at e1'
      have := hs.own_lt ⟨j, y, o2, k5, hly, e2'⟩
      have := hp b o1 e1'; omega
    · rfl
  · rcases hown b hb with h | h
    · exact hs.apart b h hF
    · have := hs.lt _ hF
      have this' : b < w.heap.size := this
      omega
  · exact ⟨h1, h2, h3, hz, hm.has, hm.shape, fun b hb' _ => hb b hb', fun _ h => h, fun _ _ h => .inl h, fun b hb h => (hown b h).resolve_right (by omega)⟩

theorem getElem?_alloc_new (w : World) (x : Obj) : (w.alloc x).heap[w.heap.size]? = some x := by show (w.heap.push x)[w.heap.size]? = some x; simp

/-- A new block of one's own. -/
theorem Sim.newObj (hs : Sim ⟨β, H, F⟩ w) {x : TV} {vs post : List Value} (hr : RepC ⟨β, H, F⟩ w x vs) (t : TypeId) (fr : Nat × Nat) (hfr : Bare (vs ++ post).length fr) :
    Sim ⟨upd β H.length 0 (some (w.heap.size, 0)), H ++ [.obj 0 x], F⟩ (w.alloc (.cells (vs ++ post).toArray t fr)) ∧ Later ⟨β, H, F⟩ w ⟨upd β H.length 0 (some (w.heap.size, 0)), H ++ [.obj 0 x], F⟩ (w.alloc (.cells (vs ++ post).toArray t fr)) := by
  refine hs.new _ rfl _ (fun b off e => by cases e; exact Nat.le_refl _) rfl rfl rfl (by simp) (fun b hb => alloc_old w _ hb) fun hm => ?_
  exact .inr ⟨w.heap.size, 0, [], vs, post, t, fr, upd_same, by simpa using getElem?_alloc_new w _, by simpa using hfr, rfl, RepC.mono hm hr⟩
/-- What is known of an object's block. -/
theorem Sim.addFact (hs : Sim ⟨β, H, F⟩ w) {i v m : Nat} {t : TypeId} (hi : Ctx.has ⟨β, H, F⟩ i v) (h : ∀ b o, β i v = some (b, o) → o = 0 ∧ w.shape? b = some (t, m)) :
    Sim ⟨upd β H.length 0 none, H ++ [.fact i v t m], F⟩ w ∧ Later ⟨β, H, F⟩ w ⟨upd β H.length 0 none, H ++ [.fact i v t m], F⟩ w :=
  hs.new (.fact i v t m) rfl none (fun b off e => by cases e) rfl rfl rfl (Nat.le_refl _) (fun b hb => rfl) fun hm =>
    ⟨(hm.has i v hi).1, fun b o e => h b o ((hm.has i v hi).2.symm.trans e)⟩
/-- An object that has no cells yet. -/
theorem Sim.newNone (hs : Sim ⟨β, H, F⟩ w) {x : TV} (hr : RepC ⟨β, H, F⟩ w x []) :
    Sim ⟨upd β H.length 0 none, H ++ [.obj 0 x], F⟩ w ∧ Later ⟨β, H, F⟩ w ⟨upd β H.length 0 none, H ++ [.obj 0 x], F⟩ w :=
  hs.new _ rfl _ (fun b off e => by cases e) rfl rfl rfl (Nat.le_refl _) (fun b hb => rfl) fun hm => .inl ⟨upd_same, RepC.mono hm hr⟩
end new

/-- One object of one's own is changed; its block may turn, and it may come to lie in another one, new, with a new version. -/
theorem Sim.turnG {β β' : Nat → Nat → Option (Nat × Nat)} {H : List Ob} {F : Nat → Prop} {w w' : World} (hs : Sim ⟨β, H, F⟩ w) {id : Nat} {o o' : Ob} (ho : H[id]? = some o) (hl : o.live = true) (hv : o.ver ≤ o'.ver)
    (hβ : ∀ i v, ¬ (i = id ∧ o.ver < v) → β' i v = β i v) (hβ' : ∀ b off, β' id o'.ver = some (b, off) → (∃ off', β id o.ver = some (b, off')) ∨ w.heap.size ≤ b)
    (h1 : w'.os = w.os) (h2 : w'.tape = w.tape) (h3 : w'.output = w.output) (hz : w.heap.size ≤ w'.heap.size) (hsh : ∀ b, b < w.heap.size → w'.shape? b = w.shape? b)
    (hb : ∀ b, b < w.heap.size → (∀ off, β id o.ver ≠ some (b, off)) → w'.heap[b]? = w.heap[b]?) (hob : Mono ⟨β, H, F⟩ w ⟨β', H.set id o', F⟩ w' → ObIs ⟨β', H.set id o', F⟩ w' id o') :
    Sim ⟨β', H.set id o', F⟩ w' ∧ Later ⟨β, H, F⟩ w ⟨β', H.set id o', F⟩ w' := by
  have hid : id < H.length := (List.getElem?_eq_some_iff.1 ho).1
  have hown : ∀ b off, β id o.ver = some (b, off) → Ctx.own ⟨β, H, F⟩ b := fun b off e => ⟨id, o, off, ho, hl, e⟩
  have hget : ∀ i y, (H.set id o')[i]? = some y → (i = id ∧ y = o') ∨ (i ≠ id ∧ H[i]? = some y) := by
    intro i y h
    rw [List.getElem?_set] at h
    split at h
    · rename_i e; try rw [if_pos hid] at h
      cases h; exact .inl ⟨e.symm, rfl⟩
    · rename_i e; exact .inr ⟨fun e' => e e'.symm, h⟩
  have hhas : ∀ i v, Ctx.has ⟨β, H, F⟩ i v → Ctx.has ⟨β', H.set id o', F⟩ i v ∧ β' i v = β i v := by
    rintro i v ⟨y, h, k⟩
    by_cases e : i = id
    · subst e
      have h' : H[i]? = some y := h
      rw [ho] at h'; cases h'
      exact ⟨⟨o', by simp [hid], by omega⟩, hβ _ _ (by omega)⟩
    · exact ⟨⟨y, by show (H.set id o')[i]? = some y; rw [List.getElem?_set, if_neg fun h => e h.symm]; exact h, k⟩, hβ _ _ (by omega)⟩
  have hm : Mono ⟨β, H, F⟩ w ⟨β', H.set id o', F⟩ w' :=
    ⟨fun b hF => ⟨hF, hb b (hs.lt b hF) fun off e => hs.apart b (hown b off e) hF⟩, hhas, hsh⟩
  have hownb : ∀ b, Ctx.own ⟨β', H.set id o', F⟩ b → Ctx.own ⟨β, H, F⟩ b ∨ w.heap.size ≤ b := by
    rintro b ⟨i, y, off, k1, k2, k3⟩
    rcases hget i y k1 with ⟨rfl, rfl⟩ | ⟨hne, h⟩
    · rcases hβ' b off k3 with ⟨off', e⟩ | h
      · exact .inl (hown b off' e)
      · exact .inr h
    · exact .inl ⟨i, y, off, h, k2, by have k3' : β' i y.ver = some (b, off) := k3; rw [hβ _ _ (by omega)] at k3'; exact k3'⟩
  refine ⟨⟨fun i y hy => ?_, fun i j x y b o1 o2 hx hy hlx hly e1 e2 => ?_, fun b k hF => ?_, fun b hF => Nat.lt_of_lt_of_le (hs.lt b hF) hz, hs.glob.keep hm.stay⟩, ?_⟩
  · rcases hget i y hy with ⟨rfl, rfl⟩ | ⟨hne, h⟩
    · exact hob hm
    · exact ObIs.mono hm ⟨y, h, Nat.le_refl _⟩ (fun hly b off e => hb b (hs.own_lt ⟨i, y, off, h, hly, e⟩) fun off' e' => hne (hs.inj i id y o b off off' h ho hly hl e e')) (hs.ob i y h)
  · have e1' : β' i x.ver = some (b, o1) := e1
    have e2' : β' j y.ver = some (b, o2) := e2
    rcases hget i x hx with ⟨rfl, rfl⟩ | ⟨hne, h⟩ <;> rcases hget j y hy with ⟨rfl, rfl⟩ | ⟨hne', h'⟩
    · rfl
    · rw [hβ _ _ (by omega)] at e2'
      rcases hβ' b o1 e1' with ⟨o3, e3⟩ | h9
      · exact hs.inj i j o y b o3 o2 ho h' hl hly e3 e2'
      · have := hs.own_lt ⟨j, y, o2, h', hly, e2'⟩; omega
    · rw [hβ _ _ (by omega)] at e1'
      rcases hβ' b o2 e2' with ⟨o3, e3⟩ | h9
      · exact hs.inj i j x o b o1 o3 h ho hlx hl e1' e3
      · have := hs.own_lt ⟨i, x, o1, h, hlx, e1'⟩; omega
    · rw [hβ _ _ (by omega)] at e1' e2'
      exact hs.inj i j x y b o1 o2 h h' hlx hly e1' e2'
  · rcases hownb b k with h | h
    · exact hs.apart b h hF
    · have := hs.lt b hF
      have this' : b < w.heap.size := this
      omega
  · exact ⟨h1, h2, h3, hz, hhas, hsh, fun b hb' hno => hb b hb' fun off e => hno (hown b off e), fun _ h => h, fun _ _ h => .inl h, fun b hb' h => (hownb b h).resolve_right (by omega)⟩

theorem Sim.turn {β β' : Nat → Nat → Option (Nat × Nat)} {H : List Ob} {F : Nat → Prop} {w w' : World} (hs : Sim ⟨β, H, F⟩ w) {id : Nat} {o o' : Ob} (ho : H[id]? = some o) (hl : o.live = true) (hl' : o'.live = true) (hv : o.ver ≤ o'.ver)
    (hβ : ∀ i v, ¬ (i = id ∧ o.ver < v) → β' i v = β i v) (hβ' : ∀ b off, β' id o'.ver = some (b, off) → (∃ off', β id o.ver = some (b, off')) ∨ w.heap.size ≤ b)
    (h1 : w'.os = w.os) (h2 : w'.tape = w.tape) (h3 : w'.output = w.output) (hz : w.heap.size ≤ w'.heap.size) (hsh : ∀ b, b < w.heap.size → w'.shape? b = w.shape? b)
    (hb : ∀ b, b < w.heap.size → (∀ off, β id o.ver ≠ some (b, off)) → w'.heap[b]? = w.heap[b]?) (hob : Mono ⟨β, H, F⟩ w ⟨β', H.set id o', F⟩ w' → ObIs ⟨β', H.set id o', F⟩ w' id o') :
    Sim ⟨β', H.set id o', F⟩ w' ∧ Later ⟨β, H, F⟩ w ⟨β', H.set id o', F⟩ w' := hs.turnG ho hl hv hβ hβ' h1 h2 h3 hz hsh hb hob
/-- The same object, looked at otherwise. -/
theorem Sim.view {β : Nat → Nat → Option (Nat × Nat)} {H : List Ob} {F : Nat → Prop} {w : World} (hs : Sim ⟨β, H, F⟩ w) {id : Nat} {o o' : Ob} (ho : H[id]? = some o) (hl : o.live = true) (hl' : o'.live = true) (hv : o.ver = o'.ver)
    (hob : Mono ⟨β, H, F⟩ w ⟨β, H.set id o', F⟩ w → ObIs ⟨β, H.set id o', F⟩ w id o') : Sim ⟨β, H.set id o', F⟩ w ∧ Later ⟨β, H, F⟩ w ⟨β, H.set id o', F⟩ w :=
  hs.turnG ho hl (Nat.le_of_eq hv) (fun _ _ _ => rfl) (fun b off e => .inl ⟨off, by rw [hv]; exact e⟩) rfl rfl rfl (Nat.le_refl _) (fun _ _ => rfl) (fun _ _ _ => rfl) hob
theorem shape_setCell (w : World) (a : Addr) (v : Value) (b : Nat) : (w.setCell a v).shape? b = w.shape? b := by
  simp only [World.shape?, World.setCell, Array.getElem?_modify]
  by_cases hb : a.block = b
  · rw [if_pos hb]
    cases hh : w.heap[b]? with
    | none => simp
    | some x =>
      cases x <;> simp
      cases a.spot <;> simp
  · rw [if_neg hb]

theorem setCell_block {w : World} {b off : Nat} {arr : Array Value} {t : TypeId} {fr : Nat × Nat} (h : w.heap[b]? = some (.cells arr t fr)) (v : Value) :
    (w.setCell ⟨b, off, none⟩ v).heap[b]? = some (.cells (arr.setIfInBounds off v) t fr) := by
  simp [World.setCell, Array.getElem?_modify, h]

theorem set_mid (pre vs post : List Value) (j : Nat) (u : Value) (hj : j < vs.length) : (pre ++ vs ++ post).set (pre.length + j) u = pre ++ vs.set j u ++ post := by
  rw [List.append_assoc, List.append_assoc, List.set_append_right _ _ (by omega), List.set_append_left _ _ (by omega)]
  congr 3; omega

/-- The part at the end of a way. -/
def getP : List (Nat × Nat) → TV → Option TV
  | [], x => some x
  | (i, d) :: p, .agg cs => if widths (cs.take i) = d then (cs[i]?).bind (getP p) else none
  | (i, d) :: p, .arr n k cs => if d = i * k then (cs[i]?).bind (getP p) else none
  | _ :: _, _ => none
/-- Another part laid at the end of a way. -/
def setP : List (Nat × Nat) → TV → TV → Option TV
  | [], x, y => if width y = width x then some y else none
  | (i, d) :: p, .agg cs, y => if widths (cs.take i) = d then (cs[i]?).bind fun c => (setP p c y).map fun c' => .agg (cs.set i c') else none
  | (i, d) :: p, .arr n k cs, y => if d = i * k ∧ pureT y = true then (cs[i]?).bind fun c => (setP p c y).map fun c' => .arr n k (cs.set i c') else none
  | _ :: _, _, _ => none

theorem split_at {cs : List TV} {i : Nat} {x : TV} (h : cs[i]? = some x) : cs = cs.take i ++ x :: cs.drop (i + 1) := by
  obtain ⟨hi, rfl⟩ := List.getElem?_eq_some_iff.1 h
  rw [List.getElem_cons_drop]; simp
theorem set_split {cs : List TV} {i : Nat} {x : TV} (h : cs[i]? = some x) (y : TV) : cs.set i y = cs.take i ++ y :: cs.drop (i + 1) := by
  obtain ⟨hi, rfl⟩ := List.getElem?_eq_some_iff.1 h
  rw [List.set_eq_take_append_cons_drop, if_pos hi]
theorem widths_take {k : Nat} {cs : List TV} (h : ∀ x ∈ cs, width x = k) {i : Nat} {x : TV} (hi : cs[i]? = some x) : widths (cs.take i) = i * k := by
  obtain ⟨hi, rfl⟩ := List.getElem?_eq_some_iff.1 hi
  rw [widths_all (fun x hx => h x (List.mem_of_mem_take hx)), List.length_take, Nat.min_eq_left (by omega)]

section paths
variable {c : Ctx} {w : World}
theorem comp_at {cs : List TV} {us : List Value} (h : RepCs c w cs us) {i : Nat} {x : TV} (hx : cs[i]? = some x) :
    ∃ a m b, us = a ++ m ++ b ∧ a.length = widths (cs.take i) ∧ RepC c w x m ∧ RepCs c w (cs.take i) a ∧ RepCs c w (cs.drop (i + 1)) b := by
  rw [split_at hx] at h
  obtain ⟨a, b, rfl, h1, h2⟩ := RepCs.split h
  rw [RepCs] at h2
  obtain ⟨m, b', rfl, h3, h4⟩ := h2
  exact ⟨a, m, b', by simp, h1.length, h3, h1, h4⟩
theorem comp_set {cs : List TV} {i : Nat} {x y : TV} (hx : cs[i]? = some x) {a m b : List Value} (h1 : RepCs c w (cs.take i) a) (h2 : RepC c w y m) (h3 : RepCs c w (cs.drop (i + 1)) b) : RepCs c w (cs.set i y) (a ++ m ++ b) := by
  rw [set_split hx, List.append_assoc]
  refine RepCs.append h1 ?_
  rw [RepCs]
  exact ⟨m, b, rfl, h2, h3⟩

theorem getP_spec {w : World} : ∀ {c : Ctx} {p : List (Nat × Nat)} {x y : TV} {us : List Value}, RepC c w x us → getP p x = some y → ∃ a m b, us = a ++ m ++ b ∧ a.length = span p ∧ RepC c w y m
  | c, [], x, y, us, h, hg => by rw [getP] at hg; cases hg; exact ⟨[], us, [], by simp, rfl, h⟩
  | c, (i, d) :: p, x, y, us, h, hg => by
    cases x with
    | agg cs =>
      rw [getP] at hg
      split at hg
      · rename_i hd
        cases hi : cs[i]? with
        | none => rw [hi] at hg; cases hg
        | some z =>
          rw [hi] at hg
          rw [RepC] at h
          obtain ⟨a, m, b, rfl, h1, h2, _⟩ := comp_at h hi
          obtain ⟨a', m', b', rfl, h3, h4⟩ := getP_spec h2 hg
          exact ⟨a ++ a', m', b' ++ b, by simp, by rw [List.length_append, h1, h3, span, hd], h4⟩
      · cases hg
    | arr n k cs =>
      rw [getP] at hg
      split at hg
      · rename_i hd
        cases hi : cs[i]? with
        | none => rw [hi] at hg; cases hg
        | some z =>
          rw [hi] at hg
          rw [RepC] at h
          obtain ⟨a, m, b, rfl, h1, h2, _⟩ := comp_at h.2.2 hi
          obtain ⟨a', m', b', rfl, h3, h4⟩ := getP_spec h2 hg
          exact ⟨a ++ a', m', b' ++ b, by simp, by rw [List.length_append, h1, h3, span, hd, widths_take h.2.1 hi], h4.unbare⟩
      · cases hg
    | _ => simp [getP] at hg

theorem setP_spec {w : World} : ∀ {c : Ctx} {p : List (Nat × Nat)} {x y x' : TV} {us vs : List Value}, RepC c w x us → setP p x y = some x' → RepC c w y vs →
    ∃ a m b, us = a ++ m ++ b ∧ a.length = span p ∧ m.length = vs.length ∧ RepC c w x' (a ++ vs ++ b) ∧ width x' = width x
  | c, [], x, y, x', us, vs, h, hg, hy => by
    rw [setP] at hg
    split at hg
    · rename_i hw; cases hg
      exact ⟨[], us, [], by simp, rfl, by rw [h.length, hy.length, hw], by simpa using hy, hw⟩
    · cases hg
  | c, (i, d) :: p, x, y, x', us, vs, h, hg, hy => by
    cases x with
    | agg cs =>
      rw [setP] at hg
      split at hg
      · rename_i hd
        cases hi : cs[i]? with
        | none => rw [hi] at hg; cases hg
        | some z =>
          rw [hi] at hg
          simp only [Option.bind_some, Option.map_eq_some_iff] at hg
          obtain ⟨z', hz, rfl⟩ := hg
          rw [RepC] at h
          obtain ⟨a, m, b, rfl, h1, h2, h5, h6⟩ := comp_at h hi
          obtain ⟨a', m', b', rfl, h3, h4, h7, h8⟩ := setP_spec h2 hz hy
          refine ⟨a ++ a', m', b' ++ b, by simp, by rw [List.length_append, h1, h3, span, hd], h4, ?_, ?_⟩
          · rw [RepC]
            have := comp_set hi h5 h7 h6
            simpa using this
          · have e1 : ∀ (l m : List TV), widths (l ++ m) = widths l + widths m := by
              intro l m; induction l with
              | nil => simp [widths]
              | cons x xs ih => rw [List.cons_append, widths, widths, ih]; omega
            rw [width, width, set_split hi]
            conv => rhs; rw [split_at hi]
            rw [e1, e1, widths, widths, h8]
      · cases hg
    | arr n k cs =>
      rw [setP] at hg
      split at hg
      · rename_i hd
        cases hi : cs[i]? with
        | none => rw [hi] at hg; cases hg
        | some z =>
          rw [hi] at hg
          simp only [Option.bind_some, Option.map_eq_some_iff] at hg
          obtain ⟨z', hz, rfl⟩ := hg
          rw [RepC] at h
          obtain ⟨a, m, b, rfl, h1, h2, h5, h6⟩ := comp_at h.2.2 hi
          obtain ⟨a', m', b', rfl, h3, h4, h7, h8⟩ := setP_spec h2 hz (hy.pure hd.2)
          refine ⟨a ++ a', m', b' ++ b, by simp, by rw [List.length_append, h1, h3, span, hd.1, widths_take h.2.1 hi], h4, ?_, rfl⟩
          rw [RepC]
          refine ⟨by simpa using h.1, ?_, by simpa using comp_set hi h5 h7 h6⟩
          intro q hq
          rcases List.mem_or_eq_of_mem_set hq with hq | rfl
          · exact h.2.1 q hq
          · rw [h8]; exact h.2.1 z (List.mem_of_getElem? hi)
      · cases hg
    | _ => simp [setP] at hg
end paths

theorem setCells_os (b : Nat) : ∀ (vs : List Value) (o : Nat) (w : World), (w.setCells b o vs).os = w.os ∧ (w.setCells b o vs).tape = w.tape ∧ (w.setCells b o vs).output = w.output ∧ (w.setCells b o vs).heap.size = w.heap.size ∧
    (∀ b', (w.setCells b o vs).shape? b' = w.shape? b') ∧ (∀ b', b' ≠ b → (w.setCells b o vs).heap[b']? = w.heap[b']?)
  | [], o, w => ⟨rfl, rfl, rfl, rfl, fun _ => rfl, fun _ _ => rfl⟩
  | v :: vs, o, w => by
    obtain ⟨h1, h2, h3, h4, h5, h6⟩ := setCells_os b vs (o + 1) (w.setCell ⟨b, o, none⟩ v)
    exact ⟨h1, h2, h3, by rw [World.setCells, h4]; simp, fun b' => by rw [World.setCells, h5]; exact shape_setCell w _ _ _, fun b' hb => by rw [World.setCells, h6 b' hb]; exact Below.heap_setCell _ _ _ _ (by exact hb)⟩
theorem setCells_block {b : Nat} {t : TypeId} {fr : Nat × Nat} : ∀ (vs a m q : List Value) (w : World), w.heap[b]? = some (.cells (a ++ m ++ q).toArray t fr) → m.length = vs.length → (w.setCells b a.length vs).heap[b]? = some (.cells (a ++ vs ++ q).toArray t fr)
  | [], a, m, q, w, h, hl => by
    have : m = [] := List.length_eq_zero_iff.1 hl
    subst this; exact h
  | v :: vs, a, m, q, w, h, hl => by
    cases m with
    | nil => simp at hl
    | cons u m =>
      have h1 := setCell_block (off := a.length) h v
      have e : (a ++ u :: m ++ q).toArray.setIfInBounds a.length v = ((a ++ [v]) ++ m ++ q).toArray := by simp
      rw [e] at h1
      have := setCells_block vs (a ++ [v]) m q _ h1 (by simpa using hl)
      rw [World.setCells]
      simpa using this

section store
variable {β : Nat → Nat → Option (Nat × Nat)} {H : List Ob} {F : Nat → Prop} {w : World}
/-- A part of an object is laid anew. -/
theorem Sim.store (hs : Sim ⟨β, H, F⟩ w) {id ver b off : Nat} {p : List (Nat × Nat)} {x x' y : TV} {vs : List Value} (ho : H[id]? = some (.obj ver x)) (hβ : β id ver = some (b, off)) (hg : setP p x y = some x')
    (hy : RepC ⟨β, H, F⟩ w y vs) :
    Sim ⟨β, H.set id (.obj ver x'), F⟩ (w.setCells b (off + span p) vs) ∧ Later ⟨β, H, F⟩ w ⟨β, H.set id (.obj ver x'), F⟩ (w.setCells b (off + span p) vs) ∧
      w.there b (off + span p) vs.length := by
  rcases hs.ob id _ ho with ⟨h0, _⟩ | ⟨b', off', pre, us, post, t, fr, h0, h1, h2, h3, h4⟩
  · have h0' : β id ver = none := h0
    rw [hβ] at h0'; cases h0'
  have h0' : β id ver = some (b', off') := h0
  rw [hβ] at h0'
  obtain ⟨rfl, rfl⟩ : b = b' ∧ off = off' := by simpa using h0'
  obtain ⟨a, m, q, rfl, k1, k2, k3, k4⟩ := setP_spec h4 hg hy
  obtain ⟨s1, s2, s3, s4, s5, s6⟩ := setCells_os b vs (off + span p) w
  have h1' : w.heap[b]? = some (.cells ((pre ++ a) ++ m ++ (q ++ post)).toArray t fr) := by rw [h1]; simp
  have hb := setCells_block vs (pre ++ a) m (q ++ post) w h1' k2
  rw [List.length_append, h3, k1] at hb
  have hlen : (pre ++ (a ++ m ++ q) ++ post).length = (pre ++ (a ++ vs ++ q) ++ post).length := by simp [k2]
  refine (and_assoc).1 ⟨hs.turn ho rfl rfl (Nat.le_refl _) (fun _ _ _ => rfl) (fun b1 off1 e => .inl ⟨off1, e⟩) s1 s2 s3 (by omega) (fun b1 _ => s5 b1) (fun b1 _ hne => s6 b1 fun e => hne off (e ▸ hβ)) fun hm => ?_, fun j hj => ?_⟩
  · exact .inr ⟨b, off, pre, a ++ vs ++ q, post, t, fr, hβ, by rw [hb]; simp, hlen ▸ h2, h3, RepC.mono hm k3⟩
  · have hj' : off + span p + j < (pre ++ (a ++ m ++ q) ++ post).length := by simp only [List.length_append]; omega
    constructor
    · rw [cell_of_row w _ _ _ t fr h1]
      simp only [List.getElem?_toArray]
      rw [List.getElem?_eq_getElem hj']; rfl
    · have := h2 _ hj'
      simp only [World.frozen?, h1]
      simpa using this
end store
end Go.Proofs.Ytknphdcjopaaoaa
