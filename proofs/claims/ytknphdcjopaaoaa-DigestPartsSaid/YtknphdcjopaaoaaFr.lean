/- What a call leaves as it was: all old blocks outside a set. No program in sight. -/
import Derived.Test.YtknphdcjopaaoaaSeg
import Derived.Test.YtknphdcjopaaoaaArr
import Derived.Lib.AppendZerosOnto
import Derived.Deep.MidRow
namespace Go.Proofs.Ytknphdcjopaaoaa
open Go.RowKit
set_option linter.unusedVariables false

/-- Of the blocks that w has all but those in S are in w' as they were; the streams too. -/
structure Fr (S : Nat → Prop) (w w' : World) : Prop where
  os : w'.os = w.os
  tape : w'.tape = w.tape
  output : w'.output = w.output
  size : w.heap.size ≤ w'.heap.size
  block : ∀ k, k < w.heap.size → ¬ S k → w'.heap[k]? = w.heap[k]?

section
variable {S : Nat → Prop} {a b c w w' : World}
theorem Fr.refl (S : Nat → Prop) (w : World) : Fr S w w := ⟨rfl, rfl, rfl, Nat.le_refl _, fun _ _ _ => rfl⟩
theorem Fr.trans (h : Fr S a b) (k : Fr S b c) : Fr S a c :=
  ⟨k.os.trans h.os, k.tape.trans h.tape, k.output.trans h.output, Nat.le_trans h.size k.size, fun i hi hn => (k.block i (Nat.lt_of_lt_of_le hi h.size) hn).trans (h.block i hi hn)⟩
/-- The second step may write what is new since the first one began. -/
theorem Fr.then {T : Nat → Prop} (h : Fr S a b) (k : Fr T b c) (hT : ∀ i, i < a.heap.size → T i → S i) : Fr S a c :=
  ⟨k.os.trans h.os, k.tape.trans h.tape, k.output.trans h.output, Nat.le_trans h.size k.size, fun i hi hn => (k.block i (Nat.lt_of_lt_of_le hi h.size) (fun t => hn (hT i hi t))).trans (h.block i hi hn)⟩
theorem Fr.mono {T : Nat → Prop} (h : Fr S a b) (hT : ∀ i, i < a.heap.size → S i → T i) : Fr T a b := ⟨h.os, h.tape, h.output, h.size, fun i hi hn => h.block i hi (fun s => hn (hT i hi s))⟩
theorem Fr.of_keeps (h : Keeps a b) (S : Nat → Prop) : Fr S a b := ⟨h.os, h.tape, h.output, h.size, fun i hi _ => h.block i hi⟩
theorem Fr.of_grown {row : Option Nat} (h : a.grownBy b row) (hS : ∀ k, row = some k → k < a.heap.size → S k) : Fr S a b := ⟨h.os, h.tape, h.output, h.size, fun i hi hn => h.block i hi (fun e => hn (hS i e.symm hi))⟩
theorem Fr.keeps (h : Fr S a b) (hS : ∀ i, i < a.heap.size → ¬ S i) : Keeps a b := ⟨h.os, h.tape, h.output, h.size, fun i hi => h.block i hi (hS i hi)⟩
theorem Fr.alloc (h : Fr S a b) (o : Obj) : Fr S a (b.alloc o) := h.trans (Fr.of_keeps ((Keeps.refl b).alloc o) S)
theorem Fr.drewN (h : Fr S a b) (n : Nat) : Fr S a (b.drewN n) := ⟨h.os, h.tape, h.output, h.size, h.block⟩
theorem Fr.drew (h : Fr S a b) : Fr S a b.drew := ⟨h.os, h.tape, h.output, h.size, h.block⟩
theorem Fr.setCell (h : Fr S a b) {p : Addr} (hp : S p.block ∨ a.heap.size ≤ p.block) (u : Value) : Fr S a (b.setCell p u) :=
  ⟨h.os, h.tape, h.output, by simpa [World.setCell] using h.size, fun i hi hn => (Below.heap_setCell b p u i (by
    rintro rfl
    rcases hp with hp | hp
    · exact hn hp
    · omega)).trans (h.block i hi hn)⟩
theorem Fr.grown (h : Fr S a b) {row : Option Nat} (k : b.grownBy c row) (hS : ∀ i, row = some i → i < a.heap.size → S i) : Fr S a c :=
  ⟨k.os.trans h.os, k.tape.trans h.tape, k.output.trans h.output, Nat.le_trans h.size k.size, fun i hi hn => (k.block i (Nat.lt_of_lt_of_le hi h.size) (fun e => hn (hS i e.symm hi))).trans (h.block i hi hn)⟩
theorem Fr.cell (h : Fr S w w') {p : Addr} (hn : ¬ S p.block) {v : Value} (hv : w.cell? p = some v) : w'.cell? p = some v := by
  rw [World.cell?_of_block (w := w) (h.block p.block (World.block_lt_of_cell? w p hv) hn)]; exact hv
theorem Arr.fr {g : Nat} {t : TypeId} {cs : List Value} (h : Arr w g t cs) (k : Fr S w w') (hn : ¬ S g) : Arr w' g t cs := by
  unfold Arr; rw [k.block g h.lt hn]; exact h
theorem Seg.fr {base : Nat} {e : TypeId} {size : Nat} {v : Value} {n : Nat} {xs : List Value} (h : Seg w base e size v n xs) (k : Fr S w w') (hn : ∀ i, v.ownBlock = some i → ¬ S i) : Seg w' base e size v n xs := by
  refine ⟨h.1, ?_⟩
  rcases h.2 with hx | ⟨g, off, cap, cur, rfl, hb, hgg, rest⟩
  · exact .inl hx
  · refine .inr ⟨g, off, cap, cur, rfl, hb, ?_, rest⟩
    rw [k.block g (Array.getElem?_eq_some_iff.1 hgg).1 (hn g rfl)]
    exact hgg
theorem Bs.fr {x : Option Addr} {l : List UInt8} (h : Bs w x l) (k : Fr S w w') (hn : 0 < l.length → ∀ p, x = some p → ¬ S p.block) : Bs w' x l := fun j hj => by
  obtain ⟨b, off, rfl, hc⟩ := h j hj
  exact ⟨b, off, rfl, k.cell (p := ⟨b, off + j, none⟩) (hn (by omega) ⟨b, off, none⟩ rfl) hc⟩
theorem Bs.lt {x : Option Addr} {l : List UInt8} (h : Bs w x l) (hl : 0 < l.length) (p : Addr) (hp : x = some p) : p.block < w.heap.size := by
  obtain ⟨b, off, e, hc⟩ := h 0 hl
  rw [hp] at e; cases e
  exact World.block_lt_of_cell? w _ hc

/-- The value of a segment, as the walk wants it. -/
theorem Seg.form {base : Nat} {e : TypeId} {size : Nat} {v : Value} {n : Nat} {xs : List Value} (h : Seg w base e size v n xs) :
    ∃ x cap, v = .slice x n cap ∧ n ≤ cap ∧ cap ≤ 9223372036854775807 ∧ (0 < cap → ∃ b off, x = some ⟨b, off, none⟩ ∧ base ≤ b ∧ b < w.heap.size) := by
  rcases h.shape with ⟨rfl, rfl, _⟩ | ⟨g, off, cap, rfl, hb, hlt, hn, hc⟩
  · exact ⟨none, 0, rfl, by omega, by omega, fun h => absurd h (by omega)⟩
  · exact ⟨_, cap, rfl, hn, hc, fun _ => ⟨g, off, rfl, hb, hlt⟩⟩

/-- A segment that has come to its end. -/
theorem Seg.end0 {base : Nat} {e : TypeId} {size : Nat} {g off n cap : Nat} {xs : List Value} (h : Seg w base e size (.slice (some ⟨g, off, none⟩) n cap) n xs) : Seg w base e size (.slice (some ⟨g, off, none⟩) 0 0) 0 [] := by
  rcases h.2 with ⟨h, _⟩ | ⟨g', off', cap', cur, hv, hb, hgg, hnc, hcm, hfit, htake⟩
  · cases h
  · simp only [Value.slice.injEq, Option.some.injEq, Addr.mk.injEq, and_true] at hv
    obtain ⟨⟨rfl, rfl⟩, _, rfl⟩ := hv
    exact ⟨by simp, .inr ⟨g, off, 0, cur, rfl, hb, hgg, Nat.le_refl _, by omega, by omega, by simp⟩⟩

/-- A segment of bytes is read. -/
theorem Seg.bytes {base : Nat} {e : TypeId} {x : Option Addr} {n cap : Nat} {l : List UInt8} (h : Seg w base e 1 (.slice x n cap) n (bv l)) : Bs w x l := fun j hj => by
  rcases h.shape with ⟨hv, _, hx⟩ | ⟨g, off, cap', hv, _⟩
  · have : (bv l).length = 0 := by rw [hx]; rfl
    rw [bv_length] at this; omega
  · cases hv
    exact ⟨g, off, rfl, h.cells rfl j _ (bv_get? l j hj)⟩

theorem Seg.len {base : Nat} {e : TypeId} {v : Value} {n : Nat} {l : List UInt8} (h : Seg w base e 1 v n (bv l)) : l.length = n := by
  have := h.1; rw [bv_length] at this; omega

/-- Its block is of the element's type: another one than a struct's. -/
theorem Seg.ne_arr {base : Nat} {e t : TypeId} {size : Nat} {v : Value} {n g : Nat} {xs cs : List Value} (h : Seg w base e size v n xs) (hg : Arr w g t cs) (hne : e ≠ t) : v.ownBlock ≠ some g := by
  intro hv
  rcases h.2 with ⟨rfl, _⟩ | ⟨g', off', cap', cur, rfl, _, hgg, _⟩
  · cases hv
  · cases hv
    unfold Arr at hg; rw [hgg] at hg
    simp only [Option.some.injEq, Obj.cells.injEq] at hg
    exact hne hg.2.1
end
theorem Arr.there {w : World} {b : Nat} {t : TypeId} {cs : List Value} (h : Arr w b t cs) (n : Nat) (hn : n ≤ cs.length) : w.there b 0 n := fun j hj => by
  rw [Nat.zero_add, h.cell, List.getElem?_eq_getElem (by omega)]; exact ⟨rfl, h.frozen j⟩
/-- A whole block is written. -/
theorem Arr.setAll {w : World} {b : Nat} {t : TypeId} {cs vs : List Value} (h : Arr w b t cs) (hl : vs.length = cs.length) : Arr (w.setCells b 0 vs) b t vs := by
  obtain ⟨cs', h1, h2, h3, h4, h5⟩ := heap_setCells_same b t vs 0 cs.toArray w h (by simp; omega)
  have e : cs' = vs.toArray := by
    apply Array.ext'
    simp only [List.size_toArray] at h2
    simp only [List.drop_zero] at h4
    rw [← h4, List.take_of_length_le (by simp; omega)]
  rw [e] at h1; exact h1
theorem Keeps.setCells {a : World} {g : Nat} (hg : a.heap.size ≤ g) : ∀ (vs : List Value) (o : Nat) (w : World), Keeps a w → Keeps a (w.setCells g o vs)
  | [], _, _, h => h
  | v :: r, o, w, h => Keeps.setCells hg r (o + 1) _ (Below.setCell h (p := ⟨g, o, none⟩) hg v)
/-- A whole array is loaded by an operation that is guarded, and wanted. -/
theorem wpList_load_rowW {P : Program} {ops : Array Oper} {rest : List Oper} {o : Oper} {a : Act} {w : World} {Q : Exit → Act → World → Prop} (ty : TypeId) (x : Operand) (ho : o.op = .load ty x)
    (g : Nat) (hx : a.eval x = .pointer (some ⟨g, 0, none⟩)) (t : TypeId) (cs : Array Value) (fr : Nat × Nat) (d : TypeDesc) (hg : w.heap[g]? = some (.cells cs t fr))
    (hu : P.underlying ty = some d) (hd : (match d with | .struct _ | .array _ _ => true | _ => false) = true) (hi : (P.info? ty).map (·.size) = some cs.size)
    (hw : Region.wanted o (yielded ops a.tmps) = true) (h : wpList P ops Q rest (a.put o.dst (.agg cs)) w) : wpList P ops Q (o :: rest) a w :=
  wpList_step fun K hK => by rw [if_pos hw]; exact wp_load_row ty x ho g hx t cs fr d hg hu hd hi (hK _ _ h)
/-- One new element of several cells, as append's source. -/
theorem srcPushN {P : Program} {tx e' : TypeId} (hk : P.underlying tx = some (.slice e')) (w : World) (size : Nat) (cs : Array Value) (t : TypeId) (hl : cs.size = size) (h1 : ∀ u ∈ cs.toList, u.oneCell' = true) :
    Src P size tx (.slice (some ⟨w.heap.size, 0, none⟩) 1 1) 1 cs.toList (w.alloc (.cells cs t)) := by
  refine Src.ofSlice _ hk _ 1 1 cs.toList (by simp [hl]) (fun j u hu => ?_) h1
  rw [show (⟨w.heap.size, 0, none⟩ : Addr).add j = ⟨w.heap.size, j, none⟩ from by (unfold Addr.add; split <;> simp_all)]
  rw [cell_of_row _ _ _ cs t (0, 0) (heap_alloc_new w _)]
  simpa using hu
/-- One new cell, as append's source. -/
theorem srcPush {P : Program} {tx e' : TypeId} (hk : P.underlying tx = some (.slice e')) (w : World) (x : Value) (t : TypeId) (h1 : x.oneCell' = true) :
    Src P 1 tx (.slice (some ⟨w.heap.size, 0, none⟩) 1 1) 1 [x] (w.alloc (.cells #[x] t)) :=
  srcPushN hk w 1 #[x] t rfl (fun u hu => by simp at hu; rw [hu]; exact h1)
theorem bv_snoc (m : List UInt8) (y : UInt8) {z : Int} (hz : z = (y.toNat : Int)) : bv m ++ [.int .u8 z] = bv (m ++ [y]) := by subst hz; simp [bv]
theorem ofNat_byte (n : Nat) : ((UInt8.ofNat (n % 256)).toNat : Int) = (n : Int) % 256 := by
  rw [UInt8.toNat_ofNat']; omega
theorem keeps_of_none {a b : World} (h : a.grownBy b none) : Keeps a b := ⟨h.os, h.tape, h.output, h.size, fun k hk => h.block k hk (by simp)⟩
theorem bcellN {W w1 : World} (h : W.grownBy w1 none) : (∀ b o, b < W.heap.size → w1.cell? ⟨b, o, none⟩ = W.cell? ⟨b, o, none⟩) ∧ (∀ b o, b < W.heap.size → w1.frozen? ⟨b, o, none⟩ = W.frozen? ⟨b, o, none⟩) :=
  ⟨fun b o hb => World.cell?_of_block (h.block b hb (by simp)), fun b o hb => World.frozen?_of_block (h.block b hb (by simp))⟩
/-- 'append(s, make([]T, k)...)' to a full slice of one-cell elements. -/
theorem run_append_zeros_seg {P : Program} (w : World) (base : Nat) (t tn ty e : TypeId) (z : Value) (bytes : Nat) (kq kn : IntKind) (ht : P.underlying t = some (.slice e)) (htn : P.underlying tn = some (.int kn))
    (hinfo : (P.info? e).map (fun i => (i.zero, i.size, i.bytes)) = some (some z, 1, bytes)) (hzs : z.cells = #[z])
    (g off n : Nat) (xs : List Value) (hown : Seg w base e 1 (.slice (some ⟨g, off, none⟩) n n) n xs) (k : Nat) (h63 : n + k ≤ maxLen) (hbytes : (n + k) * bytes ≤ 140737488355328) :
    ∃ v' w', (Builtin.append_ #[t, tn] ty #[.slice (some ⟨g, off, none⟩) n n, .int kq k]).run P w = .ok v' w' ∧ Seg w' base e 1 v' (n + k) (xs ++ List.replicate k z) ∧ w.grownBy w' none := by
  obtain ⟨i, hi, hzz⟩ := Option.map_eq_some_iff.1 hinfo
  simp only [Prod.mk.injEq] at hzz
  obtain ⟨hz, hs1, rfl⟩ := hzz
  have hsmall : ((n + k : Nat) : Int) ≤ 9223372036854775807 := by simp only [maxLen] at h63; omega
  by_cases hk : k = 0
  · subst hk
    refine ⟨.slice (some ⟨g, off, none⟩) n n, w, ?_, by simpa using hown, ⟨rfl, rfl, rfl, Nat.le_refl _, fun _ _ _ => rfl⟩⟩
    have hw : IntKind.i64.wrap (0 : Int) = 0 := by rw [IntKind.wrap_i64]; omega
    simp [Builtin.append_, run_underlying ht, run_underlying htn, sizeOf, typeInfo, hi, asInt, asIntOf, hw, storeCells]
  · have holds : ∀ j u, xs[j]? = some u → w.drew.cell? ((⟨g, off, none⟩ : Addr).add j) = some u := fun j u hu => by
      rw [show (⟨g, off, none⟩ : Addr).add j = ⟨g, off + j, none⟩ from by simp [Addr.add]]; exact hown.cells rfl j u hu
    have hxl := hown.1
    have hold := run_firstCells_some (P := P) w.drew i.size n ⟨g, off, none⟩ n n xs (by rw [hs1]; exact hxl) holds
    have hkb : k * i.bytes ≤ (n + k) * i.bytes := Nat.mul_le_mul_right _ (by omega)
    have hr := Lib.run_append_grow_zeros (P := P) w t tn ty e i z kq kn ht htn hi hz (some ⟨g, off, none⟩) n n xs hold k (by omega) (by omega) (by omega) hsmall (by omega) (growslice_fits (by omega) hbytes)
    refine ⟨_, _, hr, ?_, ⟨rfl, rfl, rfl, by simp, fun j hj _ => Below.heap_alloc w.drew _ j hj⟩⟩
    have hge := grownCap_ge w (n + k) n e
    have hcm := grownCap_le_maxLen w (n + k) n e h63
    have hbase : base ≤ w.drew.heap.size := by
      rcases hown.2 with ⟨h, _⟩ | ⟨g', off', cap', cur, hv, hb, hgg, _⟩
      · cases h
      · exact Nat.le_trans hb (Nat.le_of_lt (Array.getElem?_eq_some_iff.1 hgg).1)
    have h1 := Seg.made (base := base) (e := e) (size := 1) w.drew (xs.toArray ++ Builtin.zeroCells z.cells k ++ Builtin.zeroCells z.cells (grownCap w (n + k) n e - (n + k))) (n + k) _ hbase hge hcm (by simp [size_zeroCells, hzs]; omega)
    have h2 : (xs.toArray ++ Builtin.zeroCells z.cells k ++ Builtin.zeroCells z.cells (grownCap w (n + k) n e - (n + k))).toList.take ((n + k) * 1) = xs ++ List.replicate k z := by
      have hzl : (Builtin.zeroCells z.cells k).toList = List.replicate k z := by
        apply List.ext_getElem?
        intro j
        rcases Nat.lt_or_ge j k with h | h <;> simp [Builtin.zeroCells, hzs, Nat.mod_one, h] <;> omega
      rw [Array.toList_append, Array.toList_append, hzl, Nat.mul_one]
      have hl : (xs ++ List.replicate k z).length = n + k := by simp; omega
      simp only []
      rw [← hl]; exact List.take_left
    rw [h2] at h1
    exact h1

section
variable {P : Program} (w : World)
/-- An append inside a region that draws its order. -/
theorem step_append_seg {ops : Array Oper} {o : Oper} {a : Act} {K : Act → World → Prop} {Q : Exit → Act → World → Prop} {E : Prop} (hgd : o.guard = none) (s x : Operand) (t tx : TypeId)
    (ho : o.op = .call { callee := .builtin .append, args := #[s, x], argTypes := #[t, tx] })
    (base : Nat) (e : TypeId) (z : Value) (size bytes : Nat) (ht : P.underlying t = some (.slice e))
    (hinfo : (P.info? e).map (fun i => (i.zero, i.size, i.bytes)) = some (some z, size, bytes)) (hzs : z.cells.size = size)
    (v : Value) (n : Nat) (xs : List Value) (hs : a.eval s = v) (hown : Seg w base e size v n xs)
    (vx : Value) (m : Nat) (news : List Value) (hx : a.eval x = vx) (hsrc : Src P size tx vx m news w)
    (h63 : n + m ≤ maxLen) (hbytes : (n + m) * bytes ≤ 140737488355328) (hbase : base ≤ w.heap.size)
    (h : ∀ v' w', Seg w' base e size v' (n + m) (xs ++ news) → w.grownBy w' v.ownBlock → (v'.ownBlock = v.ownBlock ∨ v'.ownBlock = some w.heap.size) → K (a.put o.dst v') w') :
    if Region.wanted o (yielded ops a.tmps) = true then Oper.wp P o a w K Q else E := by
  have hw : Region.wanted o (yielded ops a.tmps) = true := by simp [Region.wanted, hgd]
  rw [if_pos hw]
  obtain ⟨v', w', hr, h2, h3, h4⟩ := run_append_seg (P := P) w base t tx o.type e z size bytes ht hinfo hzs v n xs hown vx m news hsrc h63 hbytes hbase
  unfold Oper.wp execOp
  simp only [ho, resolve, invoke, builtin, Sem.run_bind, Sem.run_pure, Result.andThen_ok, List.map_toArray, List.map_cons, List.map_nil, hs, hx, hr]
  exact h v' w' h2 h3 h4
end
end Go.Proofs.Ytknphdcjopaaoaa
