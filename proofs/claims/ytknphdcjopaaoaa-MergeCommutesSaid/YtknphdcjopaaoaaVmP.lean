/- Keys of maps, and arrays of bytes: looked at, found. No program in sight. -/
import Derived.Test.YtknphdcjopaaoaaVmF
namespace Go.Proofs.Ytknphdcjopaaoaa
open Go.RowKit
set_option linter.unusedVariables false
set_option autoImplicit false

/-- A type of one byte. -/
def byteEl (P : Program) (t : TypeId) : Bool := match P.underlying t, szOf P t with
  | some (.int .u8), some 1 => true
  | _, _ => false
variable {P : Program}
/-- Two arrays of bytes are looked at. -/
theorem run_equal_bytes {w : World} {t et : TypeId} {n : Nat} (h1 : P.underlying t = some (.array n et)) (h2 : byteEl P et = true) {xs ys : List UInt8} (hx : xs.length = n) (hy : ys.length = n) :
    (Op.equal t (.agg (xs.map fun b : UInt8 => Value.int .u8 b.toNat).toArray) (.agg (ys.map fun b : UInt8 => Value.int .u8 b.toNat).toArray)).run P w = .ok (xs == ys) w := by
  have h3 : P.underlying et = some (.int .u8) ∧ szOf P et = some 1 := by
    unfold byteEl at h2
    split at h2
    · rename_i q1 q2; exact ⟨q1, q2⟩
    · cases h2
  have h4 : aggB P et = some false := by unfold aggB; rw [h3.1]; rfl
  have key : ∀ (d : Nat) (zs us : List UInt8) (pre : List UInt8) (pre' : List UInt8), pre.length = pre'.length → zs.length = us.length →
      (forIn (m := Sem) (List.range' pre.length zs.length) ((none, ()) : Option Bool × PUnit) fun i r => do
          let a ← part et ((pre ++ zs).map fun b : UInt8 => Value.int .u8 b.toNat).toArray (i * 1)
          let b ← part et ((pre' ++ us).map fun b : UInt8 => Value.int .u8 b.toNat).toArray (i * 1)
          let t ← Op.equalIn (d + 1) et a b
          if (!t) = true then pure (ForInStep.done (some false, ())) else pure (ForInStep.yield (none, ()))).run P w = .ok (if zs = us then none else some false, ()) w := by
    intro d zs
    induction zs with
    | nil => intro us pre pre' hp hl; cases us with
      | nil => simp
      | cons u us => simp at hl
    | cons z zs ih =>
      intro us pre pre' hp hl
      cases us with
      | nil => simp at hl
      | cons u us =>
        rw [List.length_cons, List.range'_succ, List.forIn_cons]
        have p1 : (part et ((pre ++ z :: zs).map fun b : UInt8 => Value.int .u8 b.toNat).toArray (pre.length * 1)).run P w = .ok (.int .u8 z.toNat) w := by
          simp [part, run_isAgg h4]
        have p2 : (part et ((pre' ++ u :: us).map fun b : UInt8 => Value.int .u8 b.toNat).toArray (pre.length * 1)).run P w = .ok (.int .u8 u.toNat) w := by
          simp [part, run_isAgg h4, hp]
        have p3 : (Op.equalIn (d + 1) et (.int .u8 z.toNat) (.int .u8 u.toNat)).run P w = .ok ((z.toNat : Int) == u.toNat) w := by
          simp [Op.equalIn, run_underlying h3.1]
        have hi := ih us (pre ++ [z]) (pre' ++ [u]) (by simp [hp]) (by simpa using hl)
        simp only [List.append_assoc, List.singleton_append, List.length_append, List.length_cons, List.length_nil, Nat.zero_add] at hi
        by_cases hzu : z = u
        · subst hzu
          simp only [Sem.run_bind, p1, p2, p3, Result.andThen_ok, beq_self_eq_true, Bool.not_true, Bool.false_eq_true, if_false, Sem.run_pure]
          rw [hi]
          simp
        · have hne : ((z.toNat : Int) == u.toNat) = false := by
            rw [beq_eq_false_iff_ne]
            intro e
            exact hzu (UInt8.toNat.inj (by omega))
          simp only [Sem.run_bind, p1, p2, p3, hne, Result.andThen_ok, Bool.not_false, if_true, Sem.run_pure]
          rw [if_neg (by intro e; exact hzu (List.cons.inj e).1)]
  have heqd : ∀ d, (Op.equalIn (d + 1 + 1) t (.agg (xs.map fun b : UInt8 => Value.int .u8 b.toNat).toArray) (.agg (ys.map fun b : UInt8 => Value.int .u8 b.toNat).toArray)).run P w = .ok (xs == ys) w := by
    intro d
    have hk := key d xs ys [] [] rfl (hx.trans hy.symm)
    simp only [List.nil_append, List.length_nil] at hk
    rw [Op.equalIn]
    simp only [Sem.run_bind, run_underlying h1, Result.andThen_ok, run_szOf h3.2]
    rw [Std.Legacy.Range.forIn_eq_forIn_range']
    simp only [Std.Legacy.Range.size, Nat.sub_zero, Nat.add_sub_cancel, Nat.div_one, ← hx]
    rw [hk]
    by_cases hxy : xs = ys
    · subst hxy; simp
    · rw [if_neg hxy]
      simp [hxy]
  exact heqd 9998


theorem run_getMap {w : World} {r : Nat} {es : Array MapEntry} {clock : Nat} (hb : w.heap[r]? = some (.map es clock)) : (getObj r).run P w = .ok (.map es clock) w := by
  simp [getObj, Sem.run, hb]
theorem run_setMap {w : World} {r : Nat} {es : Array MapEntry} {clock : Nat} (o : Obj) (hb : w.heap[r]? = some (.map es clock)) : (setObj r o).run P w = .ok () { w with heap := w.heap.setIfInBounds r o } := by
  simp [setObj, Sem.run, hb]
/-- Which keys a type has. -/
def keyK (P : Program) (t : TypeId) : Option MK := match P.underlying t with
  | some .string => some .str
  | some (.array n e) => if byteEl P e then some (.arr n) else none
  | _ => none
theorem keyK_spec {t : TypeId} {kk : MK} (h : keyK P t = some kk) : (kk = .str ∧ P.underlying t = some .string) ∨ ∃ n e, kk = .arr n ∧ P.underlying t = some (.array n e) ∧ byteEl P e = true := by
  unfold keyK at h
  split at h
  · rename_i hu; cases h; exact .inl ⟨rfl, hu⟩
  · rename_i n e hu
    split at h
    · rename_i hb; cases h; exact .inr ⟨n, e, rfl, hu, hb⟩
    · cases h
  · cases h

/-- The entry of a key: its place, its value. -/
def lkp (k : List UInt8) : List (List UInt8 × TV) → List MapEntry → Nat → Option (Nat × Value)
  | (k', _) :: es, m :: ms, i => if k' = k then some (i, m.val) else lkp k es ms (i + 1)
  | _, _, _ => none
theorem run_checkKey {w : World} {kt : TypeId} {kk : MK} (hk : keyK P kt = some kk) {k : List UInt8} (hok : kOk kk k) (b : Bool) : (Instr.checkKey b 10000 kt (kVal kk k)).run P w = .ok () w := by
  have key : ∀ d, (Instr.checkKey b (d + 1 + 1) kt (kVal kk k)).run P w = .ok () w := by
    intro d
    rcases keyK_spec hk with ⟨rfl, hu⟩ | ⟨n, e, rfl, hu, hb⟩
    · simp [Instr.checkKey, run_underlying hu, kVal]
    · have h3 : P.underlying e = some (.int .u8) ∧ szOf P e = some 1 := by
        unfold byteEl at hb
        split at hb
        · rename_i q1 q2; exact ⟨q1, q2⟩
        · cases hb
      have h4 : aggB P e = some false := by unfold aggB; rw [h3.1]; rfl
      have hk2 : k.length = n := hok
      rw [Instr.checkKey]
      simp only [Sem.run_bind, run_underlying hu, Result.andThen_ok, kVal]
      have step : ∀ (zs pre : List UInt8), (forIn (m := Sem) (List.range' pre.length zs.length) PUnit.unit fun i r => do
            let __do_lift ← sizeOf e
            let __do_lift ← part e ((pre ++ zs).map fun b : UInt8 => Value.int .u8 b.toNat).toArray (i * __do_lift)
            Instr.checkKey b (d + 1) e __do_lift
            pure (ForInStep.yield PUnit.unit)).run P w = .ok PUnit.unit w := by
        intro zs
        induction zs with
        | nil => intro pre; simp
        | cons z zs ih =>
          intro pre
          rw [List.length_cons, List.range'_succ, List.forIn_cons]
          have p1 : (part e ((pre ++ z :: zs).map fun b : UInt8 => Value.int .u8 b.toNat).toArray (pre.length * 1)).run P w = .ok (.int .u8 z.toNat) w := by
            simp [part, run_isAgg h4]
          have p3 : (Instr.checkKey b (d + 1) e (.int .u8 z.toNat)).run P w = .ok () w := by
            simp [Instr.checkKey, run_underlying h3.1]
          have hi := ih (pre ++ [z])
          simp only [List.append_assoc, List.singleton_append, List.length_append, List.length_cons, List.length_nil, Nat.zero_add] at hi
          simp only [Sem.run_bind, run_szOf h3.2, Result.andThen_ok, p1, p3, Sem.run_pure]
          exact hi
      have := step k []
      simp only [List.nil_append, List.length_nil, hk2] at this
      rw [Std.Legacy.Range.forIn_eq_forIn_range']
      simp only [Std.Legacy.Range.size, Nat.sub_zero, Nat.add_sub_cancel, Nat.div_one]
      rw [this]; rfl
  exact key 9998

theorem str_inj {a b : List UInt8} : ((⟨a.toArray⟩ : ByteArray) == ⟨b.toArray⟩) = decide (a = b) := by
  rw [beq_toListBytes]
  have e : ∀ l : List UInt8, (⟨l.toArray⟩ : ByteArray).toList = l := fun l => by simp [ByteArray.toList_eq]
  rw [e, e]
  by_cases h : a = b <;> simp [h]

theorem run_findKey {c : Ctx} {w0 w : World} {kt : TypeId} {kk : MK} (hk : keyK P kt = some kk) {k : List UInt8} (hok : kOk kk k) {es : List (List UInt8 × TV)} {ms : List MapEntry} (he : EntsOk c w0 kk es ms) :
    (Instr.findKey kt (kVal kk k) ms).run P w = .ok (lkp k es ms 0) w := by
  rcases keyK_spec hk with ⟨rfl, hu⟩ | ⟨n, e, rfl, hu, hb⟩
  · have key : ∀ (es : List (List UInt8 × TV)) (ms : List MapEntry) (i : Nat), EntsOk c w0 .str es ms → Instr.findNow .string (kVal .str k) ms i = some (lkp k es ms i) := by
      intro es
      induction es with
      | nil => intro ms i h; rw [EntsOk] at h; subst h; rfl
      | cons p es ih =>
        obtain ⟨k', x⟩ := p
        intro ms i h
        rw [EntsOk] at h
        obtain ⟨m, r, rfl, ⟨h1, _⟩, _, h3⟩ := h
        rw [Instr.findNow, lkp, h1]
        have hs : Instr.sameNow .string (kVal .str k) (kVal .str k') = some (decide (k = k')) := by
          show some ((⟨k.toArray⟩ : ByteArray) == ⟨k'.toArray⟩) = _
          rw [str_inj]
        rw [hs]
        by_cases hkk : k' = k
        · subst hkk; simp
        · have : decide (k = k') = false := by simp; exact fun e => hkk e.symm
          rw [this, if_neg hkk]
          exact ih r (i + 1) h3
    unfold Instr.findKey
    simp only [Sem.run_bind, run_underlying hu, Result.andThen_ok, key es ms 0 he, Sem.run_pure]
  · have key : ∀ (es : List (List UInt8 × TV)) (ms : List MapEntry) (i : Nat), EntsOk c w0 (.arr n) es ms → (Instr.findAsking kt (kVal (.arr n) k) ms i).run P w = .ok (lkp k es ms i) w := by
      intro es
      induction es with
      | nil => intro ms i h; rw [EntsOk] at h; subst h; rfl
      | cons p es ih =>
        obtain ⟨k', x⟩ := p
        intro ms i h
        rw [EntsOk] at h
        obtain ⟨m, r, rfl, ⟨h1, h1'⟩, _, h3⟩ := h
        have heq := run_equal_bytes (P := P) (w := w) hu hb (xs := k) (ys := k') hok h1'
        rw [Instr.findAsking, lkp, h1]
        simp only [Sem.run_bind]
        show ((Op.equal kt (.agg (k.map fun b : UInt8 => Value.int .u8 b.toNat).toArray) (.agg (k'.map fun b : UInt8 => Value.int .u8 b.toNat).toArray)).run P w).andThen _ = _
        rw [heq, Result.andThen_ok]
        by_cases hkk : k' = k
        · subst hkk; simp
        · have : (k == k') = false := by simp; exact fun e => hkk e.symm
          rw [this, if_neg hkk]
          simp only [Bool.false_eq_true, if_false]
          exact ih r (i + 1) h3
    unfold Instr.findKey
    simp only [Sem.run_bind, run_underlying hu, Result.andThen_ok]
    cases es with
    | nil => rw [EntsOk] at he; subst he; rfl
    | cons p es =>
      obtain ⟨k', x⟩ := p
      have he' := he
      rw [EntsOk] at he'
      obtain ⟨m, r, rfl, ⟨h1, h1'⟩, _, h3⟩ := he'
      have hn : Instr.findNow (.array n e) (kVal (.arr n) k) (m :: r) 0 = none := by
        rw [Instr.findNow, h1]; rfl
      rw [hn]
      exact key _ _ 0 he

/-- What is found. -/
theorem lkp_get {c : Ctx} {w : World} {kk : MK} {k : List UInt8} : ∀ {es : List (List UInt8 × TV)} {ms : List MapEntry} (i : Nat), EntsOk c w kk es ms →
    (lkp k es ms i = none ∧ mget k es = none) ∨ ∃ j v x m, lkp k es ms i = some (i + j, v) ∧ mget k es = some x ∧ ms[j]? = some m ∧ m.val = v ∧ m.key = kVal kk k ∧ RepC c w x v.cells.toList ∧ v = mkV x v.cells.toList
  | [], ms, i, h => .inl ⟨by cases ms <;> rfl, rfl⟩
  | (k', x) :: es, ms, i, h => by
    rw [EntsOk] at h
    obtain ⟨m, r, rfl, ⟨h1, _⟩, h2, h3⟩ := h
    rw [lkp, mget]
    by_cases hkk : k' = k
    · subst hkk
      rw [if_pos rfl, if_pos rfl]
      exact .inr ⟨0, m.val, x, m, rfl, rfl, rfl, rfl, h1, h2.1, h2.2⟩
    · rw [if_neg hkk, if_neg hkk]
      rcases lkp_get (i + 1) h3 with ⟨g1, g2⟩ | ⟨j, v, y, m', g1, g2, g3, g4⟩
      · exact .inl ⟨g1, g2⟩
      · exact .inr ⟨j + 1, v, y, m', by rw [g1, Nat.add_assoc, Nat.add_comm 1 j], g2, by simpa using g3, g4⟩
/-- A new value for a key that is there. -/
theorem ents_set {c : Ctx} {w : World} {kk : MK} {k : List UInt8} {x : TV} {nv : Value} (hok : kOk kk k) (hx : RepC c w x nv.cells.toList) (hv : nv = mkV x nv.cells.toList) : ∀ {es : List (List UInt8 × TV)} {ms : List MapEntry} (i j : Nat) (v : Value), EntsOk c w kk es ms → lkp k es ms i = some (i + j, v) →
    EntsOk c w kk (mput k x es) (ms.modify j fun e => { e with key := kVal kk k, val := nv })
  | [], ms, i, j, v, h, hl => by cases ms <;> cases hl
  | (k', y) :: es, ms, i, j, v, h, hl => by
    rw [EntsOk] at h
    obtain ⟨m, r, rfl, h1, h2, h3⟩ := h
    rw [lkp] at hl
    rw [mput]
    by_cases hkk : k' = k
    · subst hkk
      rw [if_pos rfl] at hl ⊢
      simp only [Option.some.injEq, Prod.mk.injEq] at hl
      obtain rfl : j = 0 := by omega
      rw [EntsOk]
      exact ⟨_, r, rfl, ⟨rfl, hok⟩, ⟨hx, hv⟩, h3⟩
    · rw [if_neg hkk] at hl ⊢
      have hj : ∃ j', j = j' + 1 := by
        rcases lkp_get (i + 1) h3 (k := k) with ⟨g1, _⟩ | ⟨j2, v2, _, _, g1, _⟩
        · rw [g1] at hl; cases hl
        · rw [g1] at hl
          simp only [Option.some.injEq, Prod.mk.injEq] at hl
          exact ⟨j2, by omega⟩
      obtain ⟨j, rfl⟩ := hj
      rw [EntsOk]
      exact ⟨m, _, rfl, h1, h2, ents_set hok hx hv (i + 1) j v h3 (by rw [hl]; congr 2; omega)⟩
/-- A new key. -/
theorem ents_push {c : Ctx} {w : World} {kk : MK} {k : List UInt8} {x : TV} {m : MapEntry} (hok : kOk kk k) (hmk : m.key = kVal kk k) (hx : RepC c w x m.val.cells.toList) (hv : m.val = mkV x m.val.cells.toList) : ∀ {es : List (List UInt8 × TV)} {ms : List MapEntry}, EntsOk c w kk es ms → mget k es = none → EntsOk c w kk (mput k x es) (ms ++ [m])
  | [], ms, h, _ => by
    rw [EntsOk] at h; subst h
    rw [mput, EntsOk]
    exact ⟨m, [], rfl, ⟨hmk, hok⟩, ⟨hx, hv⟩, by rw [EntsOk]⟩
  | (k', y) :: es, ms, h, hn => by
    rw [EntsOk] at h
    obtain ⟨m', r, rfl, h1, h2, h3⟩ := h
    rw [mget] at hn
    rw [mput]
    by_cases hkk : k' = k
    · rw [if_pos hkk] at hn; cases hn
    · rw [if_neg hkk] at hn ⊢
      rw [List.cons_append, EntsOk]
      exact ⟨m', _, rfl, h1, h2, ents_push hok hmk hx hv h3 hn⟩
theorem lkp_pos {c : Ctx} {w : World} {kk : MK} {k : List UInt8} : ∀ {es : List (List UInt8 × TV)} {ms : List MapEntry} (i : Nat), EntsOk c w kk es ms →
    (∀ j v, lkp k es ms i = some (j, v) → j = i + mpos k es) ∧ (mget k es = none → mpos k es = es.length)
  | [], ms, i, h => ⟨fun j v hl => (by cases ms <;> cases hl), fun _ => rfl⟩
  | (k', x) :: es, ms, i, h => by
    rw [EntsOk] at h
    obtain ⟨m, r, rfl, ⟨h1, _⟩, h2, h3⟩ := h
    obtain ⟨g1, g2⟩ := lkp_pos (k := k) (i + 1) h3
    rw [mget, mpos]
    by_cases hkk : k' = k
    · rw [if_pos hkk, if_pos hkk]
      refine ⟨fun j v hl => ?_, fun hn => by cases hn⟩
      rw [lkp, if_pos hkk] at hl
      simp only [Option.some.injEq, Prod.mk.injEq] at hl
      omega
    · rw [if_neg hkk, if_neg hkk]
      refine ⟨fun j v hl => ?_, fun hn => by rw [g2 hn]; rfl⟩
      rw [lkp, if_neg hkk] at hl
      have := g1 j v hl; omega
/-- A new value at a place. -/
theorem ents_at {c : Ctx} {w : World} {kk : MK} {k : List UInt8} {x y : TV} {nv : Value} (hx : RepC c w x nv.cells.toList) (hv : nv = mkV x nv.cells.toList) : ∀ {es : List (List UInt8 × TV)} {ms : List MapEntry} (j : Nat), EntsOk c w kk es ms → es[j]? = some (k, y) →
    EntsOk c w kk (es.set j (k, x)) (ms.modify j fun e => { e with val := nv })
  | [], ms, j, h, hl => by simp at hl
  | (k', z) :: es, ms, j, h, hl => by
    rw [EntsOk] at h
    obtain ⟨m, r, rfl, h1, h2, h3⟩ := h
    cases j with
    | zero =>
      simp only [List.getElem?_cons_zero, Option.some.injEq, Prod.mk.injEq] at hl
      obtain ⟨rfl, rfl⟩ := hl
      rw [List.set_cons_zero, EntsOk]
      exact ⟨_, r, rfl, h1, ⟨hx, hv⟩, h3⟩
    | succ j =>
      rw [List.set_cons_succ, EntsOk]
      exact ⟨m, _, rfl, h1, h2, ents_at hx hv j h3 (by simpa using hl)⟩
theorem ents_len {c : Ctx} {w : World} {kk : MK} : ∀ {es : List (List UInt8 × TV)} {ms : List MapEntry}, EntsOk c w kk es ms → ms.length = es.length
  | [], ms, h => by rw [EntsOk] at h; subst h; rfl
  | (k', y) :: es, ms, h => by
    rw [EntsOk] at h
    obtain ⟨m', r, rfl, _, _, h3⟩ := h
    rw [List.length_cons, List.length_cons, ents_len h3]
theorem sameBits_key {kk : MK} {k : List UInt8} : Instr.sameBits 10000 (kVal kk k) (kVal kk k) = true := by
  have key : ∀ n, Instr.sameBits (n + 1 + 1) (kVal kk k) (kVal kk k) = true := by
    intro n
    cases kk with
    | str => rw [kVal, Instr.sameBits, str_inj]; simp
    | arr m =>
      rw [kVal, Instr.sameBits]
      simp only [beq_self_eq_true, Bool.true_and, List.all_eq_true]
      rintro ⟨x, y⟩ hxy
      have hxy' : x = y ∧ ∃ b : UInt8, x = .int .u8 b.toNat := by
        obtain ⟨i, hi⟩ := List.mem_iff_getElem?.1 hxy
        obtain ⟨h1, h2⟩ := List.getElem?_zip_eq_some.1 hi
        rw [h1] at h2
        refine ⟨Option.some.inj h2, ?_⟩
        simp only [List.getElem?_map, Option.map_eq_some_iff] at h1
        obtain ⟨b, _, rfl⟩ := h1
        exact ⟨b, rfl⟩
      obtain ⟨rfl, b, rfl⟩ := hxy'
      simp [Instr.sameBits]
  exact key 9998
end Go.Proofs.Ytknphdcjopaaoaa
