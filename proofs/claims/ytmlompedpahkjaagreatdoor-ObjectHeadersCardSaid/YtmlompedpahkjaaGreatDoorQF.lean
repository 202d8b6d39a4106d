/- What the proof of ObjectHeadersCard stands on (texts merged; names shortened by a program): part 6. -/
import Derived.Test.YtmlompedpahkjaaGreatDoorQE
import Derived.Lib.AppendZerosOnto
import Derived.Deep.MidRow
import Derived.Test.YtmlompedpahkjaaGreatDoorProg
import Derived.Deep.LoopGhost
import Derived.Deep.DeepMust
import Derived.Deep.RegionHeld3
import Derived.Deep.DeepCutAuto
import Derived.Deep.Light
import Derived.Deep.CutBlock
import Derived.StillTailTactics
import Derived.IntWalk
import Derived.Test.YtmlompedpahkjaaGreatDoorQD
import Derived.WalkKit
import Derived.Lib.BytesEntry
import Derived.Shelf.Bytes.SlIndexAt
import Derived.KernelRfl
namespace Go.Proofs.YtmlompedpahkjaaGreatDoor.Kit
open Go.RowKit
set_option linter.unusedVariables false

/-- Of the A33 that w has all but those in S are in w' aS they were; the streams too. -/
structure Fr (S : Nat → Prop) (w w' : World) : Prop where
 os : w'.os = w.os
 tape : w'.tape = w.tape
 output : w'.output = w.output
 size : w.heap.size ≤ w'.heap.size
 block : ∀ k, k < w.heap.size → ¬ S k → w'.heap[k]? = w.heap[k]?

section
variable {S : Nat → Prop} {a b c w w' : World}
theorem Fr.refl (S : Nat → Prop) (w : World) : Fr S w w := ⟨rfl, rfl, rfl, Nat.le_refl _, fun _ _ _ => rfl⟩
theorem Fr.trans (h : Fr S a b) (k : Fr S b c) : Fr S a c :=
 ⟨k.os.trans h.os, k.tape.trans h.tape, k.output.trans h.output, Nat.le_trans h.size k.size, fun i hi hn => (k.block i (Nat.lt_of_lt_of_le hi h.size) hn).trans (h.block i hi hn)⟩
/-- The second step may write what is new since the first one began. -/
theorem Fr.then {T : Nat → Prop} (h : Fr S a b) (k : Fr T b c) (hT : ∀ i, i < a.heap.size → T i → S i) : Fr S a c :=
 ⟨k.os.trans h.os, k.tape.trans h.tape, k.output.trans h.output, Nat.le_trans h.size k.size, fun i hi hn => (k.block i (Nat.lt_of_lt_of_le hi h.size) (fun t => hn (hT i hi t))).trans (h.block i hi hn)⟩
theorem Fr.mono {T : Nat → Prop} (h : Fr S a b) (hT : ∀ i, i < a.heap.size → S i → T i) : Fr T a b := ⟨h.os, h.tape, h.output, h.size, fun i hi hn => h.block i hi (fun s => hn (hT i hi s))⟩
theorem Fr.of_keeps (h : A3o a b) (S : Nat → Prop) : Fr S a b := ⟨h.os, h.tape, h.output, h.size, fun i hi _ => h.block i hi⟩
theorem Fr.keeps (h : Fr S a b) (hS : ∀ i, i < a.heap.size → ¬ S i) : A3o a b := ⟨h.os, h.tape, h.output, h.size, fun i hi => h.block i hi (hS i hi)⟩
theorem Fr.alloc (h : Fr S a b) (o : Obj) : Fr S a (b.alloc o) := h.trans (Fr.of_keeps ((A3o.refl b).alloc o) S)
theorem Fr.drewN (h : Fr S a b) (n : Nat) : Fr S a (b.drewN n) := ⟨h.os, h.tape, h.output, h.size, h.block⟩
theorem Fr.drew (h : Fr S a b) : Fr S a b.drew := ⟨h.os, h.tape, h.output, h.size, h.block⟩
theorem Fr.setCell (h : Fr S a b) {p : Addr} (hp : S p.block ∨ a.heap.size ≤ p.block) (u : Value) : Fr S a (b.setCell p u) :=
 ⟨h.os, h.tape, h.output, by simpa [World.setCell] using h.size, fun i hi hn => (Below.heap_setCell b p u i (by
  rintro rfl
  rcases hp with hp | hp
  ·exact hn hp
  ·omega)).trans (h.block i hi hn)⟩
theorem Fr.grown (h : Fr S a b) {row : Option Nat} (k : b.grownBy c row) (hS : ∀ i, row = some i → i < a.heap.size → S i) : Fr S a c :=
 ⟨k.os.trans h.os, k.tape.trans h.tape, k.output.trans h.output, Nat.le_trans h.size k.size, fun i hi hn => (k.block i (Nat.lt_of_lt_of_le hi h.size) (fun e => hn (hS i e.symm hi))).trans (h.block i hi hn)⟩
theorem Fr.cell (h : Fr S w w') {p : Addr} (hn : ¬ S p.block) {v : Value} (hv : w.cell? p = some v) : w'.cell? p = some v := by
 rw [World.cell?_of_block (w := w) (h.block p.block (World.block_lt_of_cell? w p hv) hn)]; exact hv
theorem Arr.fr {g : Nat} {t : TypeId} {cs : List Value} (h : Arr w g t cs) (k : Fr S w w') (hn : ¬ S g) : Arr w' g t cs := by
 unfold Arr; rw [k.block g h.lt hn]; exact h
theorem Seg.fr {base : Nat} {e : TypeId} {size : Nat} {v : Value} {n : Nat} {xs : List Value} (h : Seg w base e size v n xs) (k : Fr S w w') (hn : ∀ i, v.ownBlock = some i → ¬ S i) : Seg w' base e size v n xs := by
 refine ⟨h.1, ?_⟩
 rcases h.2 with hx | ⟨g, off, cap, cur, rfl, hb, hgg, rest⟩
 ·exact .inl hx
 ·refine .inr ⟨g, off, cap, cur, rfl, hb, ?_, rest⟩
  rw [k.block g (Array.getElem?_eq_some_iff.1 hgg).1 (hn g rfl)]
  exact hgg
theorem Bs.fr {x : Option Addr} {l : List UInt8} (h : Bs w x l) (k : Fr S w w') (hn : 0 < l.length → ∀ p, x = some p → ¬ S p.block) : Bs w' x l := fun j hj => by
 obtain ⟨b, off, rfl, hc⟩ := h j hj
 exact ⟨b, off, rfl, k.cell (p := ⟨b, off + j, none⟩) (hn (by omega) ⟨b, off, none⟩ rfl) hc⟩
theorem Bs.lt {x : Option Addr} {l : List UInt8} (h : Bs w x l) (hl : 0 < l.length) (p : Addr) (hp : x = some p) : p.block < w.heap.size := by
 obtain ⟨b, off, e, hc⟩ := h 0 hl
 rw [hp] at e; cases e
 exact World.block_lt_of_cell? w _ hc

/-- The value of a segment, aS the walk wants it. -/
theorem Seg.form {base : Nat} {e : TypeId} {size : Nat} {v : Value} {n : Nat} {xs : List Value} (h : Seg w base e size v n xs) :
  ∃ x cap, v = .slice x n cap ∧ n ≤ cap ∧ cap ≤ 9223372036854775807 ∧ (0 < cap → ∃ b off, x = some ⟨b, off, none⟩ ∧ base ≤ b ∧ b < w.heap.size) := by
 rcases h.shape with ⟨rfl, rfl, _⟩ | ⟨g, off, cap, rfl, hb, hlt, hn, hc⟩
 ·exact ⟨none, 0, rfl, by omega, by omega, fun h => absurd h (by omega)⟩
 ·exact ⟨_, cap, rfl, hn, hc, fun _ => ⟨g, off, rfl, hb, hlt⟩⟩

/-- A segment that has come to its end. -/
theorem Seg.end0 {base : Nat} {e : TypeId} {size : Nat} {g off n cap : Nat} {xs : List Value} (h : Seg w base e size (.slice (some ⟨g, off, none⟩) n cap) n xs) : Seg w base e size (.slice (some ⟨g, off, none⟩) 0 0) 0 [] := by
 rcases h.2 with ⟨h, _⟩ | ⟨g', off', cap', cur, hv, hb, hgg, hnc, hcm, hfit, htake⟩
 ·cases h
 ·simp only [Value.slice.injEq, Option.some.injEq, Addr.mk.injEq, and_true] at hv
  obtain ⟨⟨rfl, rfl⟩, _, rfl⟩ := hv
  exact ⟨by simp, .inr ⟨g, off, 0, cur, rfl, hb, hgg, Nat.le_refl _, by omega, by omega, by simp⟩⟩

/-- A segment of bytes is read. -/
theorem Seg.bytes {base : Nat} {e : TypeId} {x : Option Addr} {n cap : Nat} {l : List UInt8} (h : Seg w base e 1 (.slice x n cap) n (bv l)) : Bs w x l := fun j hj => by
 rcases h.shape with ⟨hv, _, hx⟩ | ⟨g, off, cap', hv, _⟩
 ·have : (bv l).length = 0 := by rw [hx]; rfl
  rw [A6e] at this; omega
 ·cases hv
  exact ⟨g, off, rfl, h.cells rfl j _ (Bji l j hj)⟩

theorem Seg.len {base : Nat} {e : TypeId} {v : Value} {n : Nat} {l : List UInt8} (h : Seg w base e 1 v n (bv l)) : l.length = n := by
 have := h.1; rw [A6e] at this; omega

/-- Its block is of the element's type: another one than a struct's. -/
theorem Seg.ne_arr {base : Nat} {e t : TypeId} {size : Nat} {v : Value} {n g : Nat} {xs cs : List Value} (h : Seg w base e size v n xs) (hg : Arr w g t cs) (hne : e ≠ t) : v.ownBlock ≠ some g := by
 intro hv
 rcases h.2 with ⟨rfl, _⟩ | ⟨g', off', cap', cur, rfl, _, hgg, _⟩
 ·cases hv
 ·cases hv
  unfold Arr at hg; rw [hgg] at hg
  simp only [Option.some.injEq, Obj.cells.injEq] at hg
  exact hne hg.2.1
end
theorem Arr.there {w : World} {b : Nat} {t : TypeId} {cs : List Value} (h : Arr w b t cs) (n : Nat) (hn : n ≤ cs.length) : w.there b 0 n := fun j hj => by
 rw [Nat.zero_add, h.cell, List.getElem?_eq_getElem (by omega)]; exact ⟨rfl, h.frozen j⟩
/-- A whole block is written. -/
theorem Arr.setAll {w : World} {b : Nat} {t : TypeId} {cs vs : List Value} (h : Arr w b t cs) (hl : vs.length = cs.length) : Arr (w.setCells b 0 vs) b t vs := by
 obtain ⟨cs', h1, h2, h3, h4, h5⟩ := A9C b t vs 0 cs.toArray w h (by simp; omega)
 have e : cs' = vs.toArray := by
  apply Array.ext'
  simp only [List.size_toArray] at h2
  simp only [List.drop_zero] at h4
  rw [← h4, List.take_of_length_le (by simp; omega)]
 rw [e] at h1; exact h1
theorem A3o.setCells {a : World} {g : Nat} (hg : a.heap.size ≤ g) : ∀ (vs : List Value) (o : Nat) (w : World), A3o a w → A3o a (w.setCells g o vs)
 | [], _, _, h => h
 | v :: r, o, w, h => A3o.setCells hg r (o + 1) _ (Below.setCell h (p := ⟨g, o, none⟩) hg v)
/-- One new element of several cells, aS append's source. -/
theorem Brq {P : Program} {tx e' : TypeId} (hk : P.underlying tx = some (.slice e')) (w : World) (size : Nat) (cs : Array Value) (t : TypeId) (hl : cs.size = size) (h1 : ∀ u ∈ cs.toList, u.oneCell' = true) :
  Src P size tx (.slice (some ⟨w.heap.size, 0, none⟩) 1 1) 1 cs.toList (w.alloc (.cells cs t)) := by
 refine Src.ofSlice _ hk _ 1 1 cs.toList (by simp [hl]) (fun j u hu => ?_) h1
 rw [show (⟨w.heap.size, 0, none⟩ : Addr).add j = ⟨w.heap.size, j, none⟩ from by (unfold Addr.add; split <;> simp_all)]
 rw [cell_of_row _ _ _ cs t (0, 0) (heap_alloc_new w _)]
 simpa using hu
/-- One new cell, aS append's source. -/
theorem Bjn {P : Program} {tx e' : TypeId} (hk : P.underlying tx = some (.slice e')) (w : World) (x : Value) (t : TypeId) (h1 : x.oneCell' = true) :
  Src P 1 tx (.slice (some ⟨w.heap.size, 0, none⟩) 1 1) 1 [x] (w.alloc (.cells #[x] t)) :=
 Brq hk w 1 #[x] t rfl (fun u hu => by simp at hu; rw [hu]; exact h1)
theorem Bl8 (m : List UInt8) (y : UInt8) {z : Int} (hz : z = (y.toNat : Int)) : bv m ++ [.int .u8 z] = bv (m ++ [y]) := by subst hz; simp [bv]
theorem BcU (n : Nat) : ((UInt8.ofNat (n % 256)).toNat : Int) = (n : Int) % 256 := by
 rw [UInt8.toNat_ofNat']; omega
theorem A44 {a b : World} (h : a.grownBy b none) : A3o a b := ⟨h.os, h.tape, h.output, h.size, fun k hk => h.block k hk (by simp)⟩
theorem Bxd {W w1 : World} (h : W.grownBy w1 none) : (∀ b o, b < W.heap.size → w1.cell? ⟨b, o, none⟩ = W.cell? ⟨b, o, none⟩) ∧ (∀ b o, b < W.heap.size → w1.frozen? ⟨b, o, none⟩ = W.frozen? ⟨b, o, none⟩) :=
 ⟨fun b o hb => World.cell?_of_block (h.block b hb (by simp)), fun b o hb => World.frozen?_of_block (h.block b hb (by simp))⟩
/-- 'append(s, make([]T, k)...)' to a full slice of one-cell elements. -/
theorem Bdi {P : Program} (w : World) (base : Nat) (t tn ty e : TypeId) (z : Value) (bytes : Nat) (kq kn : IntKind) (ht : P.underlying t = some (.slice e)) (htn : P.underlying tn = some (.int kn))
  (hinfo : (P.info? e).map (fun i => (i.zero, i.size, i.bytes)) = some (some z, 1, bytes)) (hzs : z.cells = #[z])
  (g off n : Nat) (xs : List Value) (hown : Seg w base e 1 (.slice (some ⟨g, off, none⟩) n n) n xs) (k : Nat) (h63 : n + k ≤ maxLen) (hbytes : (n + k) * bytes ≤ 140737488355328) :
  ∃ v' w', (Builtin.append_ #[t, tn] ty #[.slice (some ⟨g, off, none⟩) n n, .int kq k]).run P w = .ok v' w' ∧ Seg w' base e 1 v' (n + k) (xs ++ List.replicate k z) ∧ w.grownBy w' none := by
 obtain ⟨i, hi, hzz⟩ := Option.map_eq_some_iff.1 hinfo
 simp only [Prod.mk.injEq] at hzz
 obtain ⟨hz, hs1, rfl⟩ := hzz
 have hsmall : ((n + k : Nat) : Int) ≤ 9223372036854775807 := by simp only [maxLen] at h63; omega
 by_cases hk : k = 0
 ·subst hk
  refine ⟨.slice (some ⟨g, off, none⟩) n n, w, ?_, by simpa using hown, ⟨rfl, rfl, rfl, Nat.le_refl _, fun _ _ _ => rfl⟩⟩
  have hw : IntKind.i64.wrap (0 : Int) = 0 := by rw [IntKind.wrap_i64]; omega
  simp [Builtin.append_, run_underlying ht, run_underlying htn, sizeOf, typeInfo, hi, asInt, asIntOf, hw, storeCells]
 ·have holds : ∀ j u, xs[j]? = some u → w.drew.cell? ((⟨g, off, none⟩ : Addr).add j) = some u := fun j u hu => by
   rw [show (⟨g, off, none⟩ : Addr).add j = ⟨g, off + j, none⟩ from by simp [Addr.add]]; exact hown.cells rfl j u hu
  have hxl := hown.1
  have hold := run_firstCells_some (P := P) w.drew i.size n ⟨g, off, none⟩ n n xs (by rw [hs1]; exact hxl) holds
  have hkb : k * i.bytes ≤ (n + k) * i.bytes := Nat.mul_le_mul_right _ (by omega)
  have hr := Lib.run_append_grow_zeros (P := P) w t tn ty e i z kq kn ht htn hi hz (some ⟨g, off, none⟩) n n xs hold k (by omega) (by omega) (by omega) hsmall (by omega) (growslice_fits (by omega) hbytes)
  refine ⟨_, _, hr, ?_, ⟨rfl, rfl, rfl, by simp, fun j hj _ => Below.heap_alloc w.drew _ j hj⟩⟩
  have hge := grownCap_ge w (n + k) n e
  have hcm := grownCap_le_maxLen w (n + k) n e h63
  have hbase : base ≤ w.drew.heap.size := by
   rcases hown.2 with ⟨h, _⟩ | ⟨g', off', cap', cur, hv, hb, hgg, _⟩
   ·cases h
   ·exact Nat.le_trans hb (Nat.le_of_lt (Array.getElem?_eq_some_iff.1 hgg).1)
  have h1 := Seg.made (base := base) (e := e) (size := 1) w.drew (xs.toArray ++ Builtin.zeroCells z.cells k ++ Builtin.zeroCells z.cells (grownCap w (n + k) n e - (n + k))) (n + k) _ hbase hge hcm (by simp [size_zeroCells, hzs]; omega)
  have h2 : (xs.toArray ++ Builtin.zeroCells z.cells k ++ Builtin.zeroCells z.cells (grownCap w (n + k) n e - (n + k))).toList.take ((n + k) * 1) = xs ++ List.replicate k z := by
   have hzl : (Builtin.zeroCells z.cells k).toList = List.replicate k z := by
    apply List.ext_getElem?
    intro j
    rcases Nat.lt_or_ge j k with h | h <;> simp [Builtin.zeroCells, hzs, Nat.mod_one, h] <;> omega
   rw [Array.toList_append, Array.toList_append, hzl, Nat.mul_one]
   have hl : (xs ++ List.replicate k z).length = n + k := by simp; omega
   simp only []
   rw [← hl]; exact List.take_left
  rw [h2] at h1
  exact h1

section
variable {P : Program} (w : World)
/-- An append inside a region that draws its order. -/
theorem BhA {ops : Array Oper} {o : Oper} {a : Act} {K : Act → World → Prop} {Q : Exit → Act → World → Prop} {E : Prop} (hgd : o.guard = none) (s x : Operand) (t tx : TypeId)
  (ho : o.op = .call { callee := .builtin .append, args := #[s, x], argTypes := #[t, tx] })
  (base : Nat) (e : TypeId) (z : Value) (size bytes : Nat) (ht : P.underlying t = some (.slice e))
  (hinfo : (P.info? e).map (fun i => (i.zero, i.size, i.bytes)) = some (some z, size, bytes)) (hzs : z.cells.size = size)
  (v : Value) (n : Nat) (xs : List Value) (hs : a.eval s = v) (hown : Seg w base e size v n xs)
  (vx : Value) (m : Nat) (news : List Value) (hx : a.eval x = vx) (hsrc : Src P size tx vx m news w)
  (h63 : n + m ≤ maxLen) (hbytes : (n + m) * bytes ≤ 140737488355328) (hbase : base ≤ w.heap.size)
  (h : ∀ v' w', Seg w' base e size v' (n + m) (xs ++ news) → w.grownBy w' v.ownBlock → (v'.ownBlock = v.ownBlock ∨ v'.ownBlock = some w.heap.size) → K (a.put o.dst v') w') :
  if Region.wanted o (yielded ops a.tmps) = true then Oper.wp P o a w K Q else E := by
 have hw : Region.wanted o (yielded ops a.tmps) = true := by simp [Region.wanted, hgd]
 rw [if_pos hw]
 obtain ⟨v', w', hr, h2, h3, h4⟩ := BdK (P := P) w base t tx o.type e z size bytes ht hinfo hzs v n xs hown vx m news hsrc h63 hbytes hbase
 unfold Oper.wp execOp
 simp only [ho, resolve, invoke, builtin, Sem.run_bind, Sem.run_pure, Result.andThen_ok, List.map_toArray, List.map_cons, List.map_nil, hs, hx, hr]
 exact h v' w' h2 h3 h4
end
end Go.Proofs.YtmlompedpahkjaaGreatDoor.Kit


namespace Go.Proofs.YtmlompedpahkjaaGreatDoor.Kit
open Go.RowKit
set_option linter.unusedVariables false

theorem Bi1 {a b : Bool} (h : a = b) : Ending.returned (.bool a) = .returned (.bool b) := by rw [h]

theorem BnW {l m : List UInt8} {k : Nat} (h : l.getD k 0 ≠ m.getD k 0) : (l == m) = false := by
 rw [beq_eq_false_iff_ne]; intro e; exact h (by rw [e])

set_option maxRecDepth 100000 in
set_option maxHeartbeats 400000 in
theorem same (a b : Option Addr) (ca cb : Nat) (l m : List UInt8) (w : World) (hl : l.length ≤ 9223372036854775807) (hm : m.length ≤ 9223372036854775807) (ha : Bs w a l) (hb : Bs w b m) :
  Calls Tryz.prog 12 #[.slice a l.length ca, .slice b m.length cb] w fun e w' => e = .returned (.bool (l == m)) ∧ ∃ n, w' = w.drewN n := by
 by_cases hlm : l.length = m.length
 ·have hne : ((l.length : Int) != (m.length : Int)) = false := by simp [hlm]
  have HLM := Lib.hid hlm; clear hlm
  go_enter Tryz.func12, Tryz.ntmps12
  go_wp2
  go_loopw [4, 5] (fun r i wr => ∃ k n : Nat, k ≤ l.length ∧ i = .int .i64 k ∧ wr = w.drewN n ∧ r = .bool false ∧ Hid (l.take k = m.take k)) (fun _ i _ => l.length - (intOf i).toNat)
  case atStart => exact ⟨0, 0, by omega, rfl, rfl, rfl, rfl⟩
  case round =>
   obtain ⟨k, n, hk, rfl, rfl, rfl, hr⟩ := hrel
   by_cases hlt : k < l.length
   ·obtain ⟨b1, o1, x, rfl, hc1, hx, HX⟩ := ha.at hlt
    obtain ⟨b2, o2, y, rfl, hc2, hy, HY⟩ := hb.at (j := k) (by rw [← HLM.out]; exact hlt)
    have hlt2 : k < m.length := by rw [← HLM.out]; exact hlt
    by_cases hxy : x = y
    ·subst hxy
     go_wp2
     go_quiet (fail)
     go_wp2
     go_roundw
     case rel =>
      refine ⟨k + 1, _, by omega, by go_num, rfl, rfl, ?_⟩
      have h1 := hr.out
      have e1 : l[k] = x := by rw [HX.out]; simp [List.getD, hlt]
      have e2 : m[k] = x := by rw [HY.out]; simp [List.getD, hlt2]
      show l.take (k + 1) = m.take (k + 1)
      rw [List.take_succ_eq_append_getElem hlt, List.take_succ_eq_append_getElem hlt2, h1, e1, e2]
     case measure => simp [intOf]; omega
    ·have hn : ((x.toNat : Int) != (y.toNat : Int)) = true := by
      rw [bne_iff_ne]; intro e; exact hxy (UInt8.toNat_inj.1 (by omega))
     have HN := Lib.hid hxy; clear hxy
     go_wp2
     go_quiet (fail)
     go_wp2
     go_ret
     exact ⟨Bi1 (BnW (k := k) (by rw [← HX.out, ← HY.out]; exact HN.out)).symm, _, World.drewN_drewN ..⟩
   ·go_wp2
    go_ret
    refine ⟨Bi1 ?_, _, rfl⟩
    have h1 := hr.out
    rw [List.take_of_length_le (by omega), List.take_of_length_le (by rw [← HLM.out]; omega)] at h1
    simp [h1]
 ·have hne : ((l.length : Int) != (m.length : Int)) = true := by rw [bne_iff_ne]; omega
  have HLM := Lib.hid hlm; clear hlm
  go_enter Tryz.func12, Tryz.ntmps12
  go_wp2
  go_ret
  refine ⟨Bi1 ?_, 0, rfl⟩
  symm; rw [beq_eq_false_iff_ne]; intro e; exact HLM.out (by rw [e])

theorem Tryz.infoU8 : (Tryz.prog.info? 5).map (fun i => (i.zero, i.size, i.bytes)) = some (some (.int .u8 0), 1, 1) := by kernel_rfl
theorem Tryz.sizeU8 : (Tryz.prog.info? 5).map (·.size) = some 1 := by kernel_rfl

set_option maxRecDepth 100000 in
set_option maxHeartbeats 400000 in
theorem BuS (a : Option Addr) (ca : Nat) (l : List UInt8) (w : World) (hl : l.length ≤ 1000000) (ha : Bs w a l) :
  Calls Tryz.prog 4 #[.slice a l.length ca] w fun e w' => e = .returned (.slice (some ⟨w.heap.size, 0, none⟩) l.length (l.length + 2)) ∧
   w'.heap[w.heap.size]? = some (.cells (bv (l ++ [71, 72])).toArray 5 (0, 0)) ∧ A3o w w' := by
 have hmk := run_make_row' (P := Tryz.prog) 23 5 (.int .u8 0) 1 Tryz.underlying23 Tryz.infoU8 rfl .i64 .i64 (l.length + 2) (by omega) (by omega)
 rw [show ((l.length + 2 : Nat) : Int) = (l.length : Int) + 2 from by omega] at hmk
 have hsz := Tryz.sizeU8
 go_enter Tryz.func4, Tryz.ntmps4
 go_wp2_with (with_reducible refine wpList_copy_splice rfl (.tmp 10) (.tmp 11) 23 23 rfl 5 Tryz.underlying23 hsz _ _ _ _ _ _ rfl rfl w.heap.size 0 (madeCells #[.int .u8 0] (l.length + 2)).toList 5 ?c1 (bv l) ?c2 ?c3 ?c4 ?c5 w.heap.size w ?c6 (Nat.le_refl _) ?_)
 case c1 => rw [heap_alloc_new]
 case c2 => rw [A6e]; show _ = min _ _; omega
 case c3 => exact fun h => (ha.keep ((A3o.refl w).alloc _)).src (by simpa using h)
 case c4 => simp [size_madeCells]
 case c5 => exact Be4 l
 case c6 => exact (A3o.refl w).alloc _
 intro w1 H1 K1
 have hsp : splice (madeCells #[Value.int .u8 0] (l.length + 2)).toList 0 (bv l) = bv l ++ [Value.int .u8 0, Value.int .u8 0] := by
  rw [toList_madeCells_one, splice]; simp only [List.take_zero, List.nil_append, Nat.zero_add, A6e, List.drop_replicate]; rw [show l.length + 2 - l.length = 2 from by omega]; rfl
 have H2 : w1.heap[w.heap.size]? = some (.cells (bv l ++ [Value.int .u8 0, Value.int .u8 0]).toArray 5 (0, 0)) := by rw [← hsp]; exact H1.out
 have c1 : w1.cell? ⟨w.heap.size, l.length, none⟩ = some (.int .u8 0) := by rw [cell_of_row _ _ _ _ _ _ H2]; simp
 have c2 : w1.cell? ⟨w.heap.size, l.length + 1, none⟩ = some (.int .u8 0) := by rw [cell_of_row _ _ _ _ _ _ H2]; simp
 have f1 : w1.frozen? ⟨w.heap.size, l.length, none⟩ = false := frozen_of_row _ _ _ _ _ H2
 have f2 : w1.frozen? ⟨w.heap.size, l.length + 1, none⟩ = false := frozen_of_row _ _ _ _ _ H2
 have HB := Lib.hid H2
 clear H1 H2 hsp hmk
 go_wp2
 go_ret
 refine ⟨rfl, ?_, ?_⟩
 ·rw [heap_setCell_same _ _ _ _ _ _ (heap_setCell_same _ _ _ _ _ _ HB.out)]
  simp [bv]
 ·exact (K1.setCell (Nat.le_refl _) _).setCell (Nat.le_refl _) _
theorem By8 (m : List UInt8) (i : Nat) (y : UInt8) : (bv m).toArray.setIfInBounds i (.int .u8 (y.toNat : Int)) = (bv (m.set i y)).toArray := by
 simp [bv, List.map_set]

set_option maxRecDepth 100000 in
set_option maxHeartbeats 1000000 in
theorem Bij (g : Nat) (b : Option Addr) (cb : Nat) (l : List UInt8) (w : World) (hl : l.length ≤ 1000000) (hg : w.heap[g]? = some (.cells (bv (l ++ [71, 72])).toArray 5 (0, 0))) (hb : Bs w b l) :
  Calls Tryz.prog 8 #[.slice (some ⟨g, 0, none⟩) l.length (l.length + 2), .slice b l.length cb] w fun e w' => e = .returned (.bool true) ∧ w.grownBy w' (some g) := by
 have hr : Bs w (some ⟨g, 0, none⟩) l := Bs.of_block hg (fun j hj => by rw [Nat.zero_add, Bji _ _ (by simp; omega)]; simp [List.getD, hj, List.getElem?_append_left hj])
 have c1 : w.cell? ⟨g, l.length, none⟩ = some (.int .u8 71) := by rw [cell_of_row _ _ _ _ _ _ hg]; simp [bv]
 have c2 : w.cell? ⟨g, l.length + 1, none⟩ = some (.int .u8 72) := by rw [cell_of_row _ _ _ _ _ _ hg]; simp [bv]
 have HG := Lib.hid hg; clear hg
 go_enter Tryz.func8, Tryz.ntmps8
 go_wp2_with fail
 (with_reducible refine (same _ _ _ _ _ _ _ (by omega) (by omega) hr hb).mono ?_)
 rintro e w' ⟨rfl, n, rfl⟩
 have hll : (l == l) = true := by simp
 go_wp2
 go_loopw [8] (fun i wr => ∃ (k : Nat) (m : List UInt8), k ≤ l.length + 2 ∧ i = .int .i64 k ∧ m.length = l.length + 2 ∧ wr.heap[g]? = some (.cells (bv m).toArray 5 (0, 0)) ∧ w.grownBy wr (some g)) (fun i _ => l.length + 2 - (intOf i).toNat)
 case atStart => exact ⟨0, l ++ [71, 72], by omega, rfl, by simp, HG.out, ⟨rfl, rfl, rfl, Nat.le_refl _, fun _ _ _ => rfl⟩⟩
 case round =>
  obtain ⟨k, m, hk, rfl, hm, hgr, hgrown⟩ := hrel
  by_cases hlt : k < l.length + 2
  ·have hcell : wr.cell? ⟨g, k, none⟩ = some (.int .u8 ((m.getD k 0).toNat : Int)) := by rw [cell_of_row _ _ _ _ _ _ hgr]; simpa using Bji m k (by omega)
   have hfz : wr.frozen? ⟨g, k, none⟩ = false := frozen_of_row _ _ _ _ _ hgr
   obtain ⟨x, hx⟩ : ∃ x, x = m.getD k 0 := ⟨_, rfl⟩
   rw [← hx] at hcell
   have HGR := Lib.hid hgr; clear hgr hx
   have HM := Lib.hid hm; clear hm
   have hbx := BlZ x
   go_wp2
   go_roundw
   case rel =>
    refine ⟨k + 1, m.set k (x ^^^ 85), by omega, by go_num, by rw [List.length_set]; exact HM.out, ?_, ?_⟩
    ·rw [heap_setCell_same _ _ _ _ _ _ HGR.out, ← By8]
     rw [show (85 : Int) = ((85 : Nat) : Int) from rfl, u8_xor_nat _ _ (by omega) (by omega), UInt8.toNat_xor]; rfl
    ·exact ⟨hgrown.os, hgrown.tape, hgrown.output, by simpa [World.setCell] using hgrown.size, fun j hj hne => by rw [heap_setCell_other _ _ _ _ (by simpa using fun e => hne (by rw [e]))]; exact hgrown.block j hj hne⟩
   case measure => simp [intOf]; omega
  ·have HGR := Lib.hid hgr; clear hgr
   have HM := Lib.hid hm; clear hm
   go_wp2
   go_ret
   exact ⟨rfl, hgrown⟩

end Go.Proofs.YtmlompedpahkjaaGreatDoor.Kit


namespace Go.Proofs.YtmlompedpahkjaaGreatDoor.Kit
open Go.RowKit
set_option linter.unusedVariables false

/-- A digest at block g, to which 'all' was added; its rest lies in the slice vr. -/
structure Dig (w : World) (base g : Nat) (vr : Value) (all : List UInt8) : Prop where
 arr : Arr w g 89 (A6o (A33 H0 all).1.list ++ [vr, .int .u64 ((all.length % 18446744073709551616 : Nat) : Int)])
 seg : Seg w base 5 1 vr (A33 H0 all).2.length (bv (A33 H0 all).2)

theorem Dig.fr {w w' : World} {base g : Nat} {vr : Value} {all : List UInt8} {S : Nat → Prop} (h : Dig w base g vr all) (k : Fr S w w') (h1 : ¬ S g) (h2 : ∀ i, vr.ownBlock = some i → ¬ S i) : Dig w' base g vr all :=
 ⟨h.arr.fr k h1, h.seg.fr k h2⟩

/-- What is left to be mixed in. -/
structure Bpj (all : List UInt8) (h : V5) (l : List UInt8) : Prop where
 eq : A33 h l = A33 H0 all
 ok : h.ok


set_option maxRecDepth 100000 in
set_option maxHeartbeats 4000000 in
theorem Bxm (w : World) : Calls Tryz.prog 24 #[] w fun e w' => e = .returned (.pointer (some ⟨w.heap.size, 0, none⟩)) ∧ Dig w' 0 w.heap.size (.slice none 0 0) [] ∧ A3o w w' := by
 go_enter Tryz.func24, Tryz.ntmps24
 go_wp2
 go_ret
 refine ⟨rfl, ⟨?_, Seg.nil _ _ _ _⟩, (A3o.refl w).alloc _⟩
 exact Arr.new _ _ _

set_option maxRecDepth 100000 in
set_option maxHeartbeats 4000000 in
theorem Buo (g base : Nat) (vr : Value) (all : List UInt8) (a : Option Addr) (cap : Nat) (b : List UInt8) (w : World) (hD : Dig w base g vr all) (hb : Bs w a b) (hag : 0 < b.length → ∀ p, a = some p → p.block ≠ g) (hbl : b.length ≤ 1000000000) (hbase : base ≤ w.heap.size) :
  Calls Tryz.prog 25 #[.pointer (some ⟨g, 0, none⟩), .slice a b.length cap] w fun e w' =>
   e = .returned (.tuple #[]) ∧ ∃ vr', Dig w' base g vr' (all ++ b) ∧ Fr (fun i => i = g ∨ vr.ownBlock = some i) w w' ∧ (vr'.ownBlock = vr.ownBlock ∨ ∃ i, w.heap.size ≤ i ∧ vr'.ownBlock = some i) := by
 obtain ⟨hA, hS⟩ := hD
 have hrl := BdF H0 all
 have hok := Bhb H0 all BqM
 have hba := Bjb H0 all b
 generalize A33 H0 all = B0 at *
 obtain ⟨h0, rest⟩ := B0
 simp only at hA hS hrl hok hba
 have hBA : Bpj (all ++ b) h0 (rest ++ b) := ⟨hba.symm, hok⟩
 clear hba hok
 have hne : vr.ownBlock ≠ some g := hS.ne_arr hA (by decide)
 have c6 : w.cell? ⟨g, 6, none⟩ = some (.int .u64 ((all.length % 18446744073709551616 : Nat) : Int)) := hA.cell 6
 have f6 := hA.frozen 6
 obtain ⟨sz, hsz⟩ : ∃ sz : Nat, sz = all.length % 18446744073709551616 := ⟨_, rfl⟩
 rw [← hsz] at c6 hA
 have hszl : sz < 18446744073709551616 := by omega
 have HSZ := Lib.hid hsz; clear hsz
 go_enter Tryz.func25, Tryz.ntmps25
 have hgl : g < w.heap.size := hA.lt
 go_upto_region 0 with (fail)
 go_cut [] (fun w1 => Arr w1 g 89 (A6o h0.list ++ [vr, .int .u64 (((sz + b.length) % 18446744073709551616 : Nat) : Int)]) ∧ Fr (fun i => i = g) w w1)
 case first =>
  go_wp2
  go_meet
  case rel =>
   refine ⟨?_, (Fr.refl (fun i => i = g) w).setCell (p := ⟨g, 6, none⟩) (.inl rfl) _⟩
   have h1 := hA.set 6 (.int .u64 (((sz + b.length) % 18446744073709551616 : Nat) : Int))
   rw [show IntKind.u64.wrap ((sz : Int) + (b.length : Int)) = (((sz + b.length) % 18446744073709551616 : Nat) : Int) from by rw [IntKind.wrap_u64]; omega]
   exact h1
 case rest =>
  obtain ⟨hA1, hF1⟩ := hcut
  have hS1 : Seg wc base 5 1 vr rest.length (bv rest) := hS.fr hF1 (fun i hi e => hne (by rw [hi, e]))
  have hb1 : Bs wc a b := hb.fr hF1 (fun hl p hp e => hag hl p hp e)
  have hsrc : Src Tryz.prog 1 23 (.slice a b.length cap) b.length (bv b) wc := hb1.srcOf Tryz.underlying23 cap (fun _ => rfl)
  have c5 : wc.cell? ⟨g, 5, none⟩ = some vr := hA1.cell 5
  obtain ⟨szb, hszb⟩ : ∃ z : Nat, z = (sz + b.length) % 18446744073709551616 := ⟨_, rfl⟩
  rw [← hszb] at hA1
  have HSB := Lib.hid hszb; clear hszb
  clear c6 f6
  obtain ⟨wa, rfl⟩ : ∃ wa : World, wa = wc := ⟨_, rfl⟩
  have hsza : w.heap.size ≤ wa.heap.size := hF1.size
  go_upto_region 1 with (fail)
  go_cut [] (fun w2 => ∃ vr1, Arr w2 g 89 (A6o h0.list ++ [vr1, .int .u64 (szb : Int)]) ∧ Seg w2 base 5 1 vr1 (rest ++ b).length (bv (rest ++ b)) ∧ Fr (fun i => i = g ∨ vr.ownBlock = some i) w w2 ∧ (vr1.ownBlock = vr.ownBlock ∨ ∃ i, w.heap.size ≤ i ∧ vr1.ownBlock = some i))
  case first =>
   go_wp2_with (at_builtin; go_must (refine A4u _ rfl (.tmp 18) (.tmp 19) 23 23 rfl base 5 (.int .u8 0) 1 1 Tryz.underlying23 Tryz.infoU8 rfl vr _ _ rfl hS1 _ _ _ rfl hsrc ?c1 ?c2 ?c3 ?_))
   case c1 => unfold maxLen; omega
   case c2 => omega
   case c3 => omega
   intro v' w2 hS2 hg2 ho2
   have hA2 : Arr w2 g 89 (A6o h0.list ++ [vr, .int .u64 (szb : Int)]) := hA1.grown hg2 (fun e => hne e.symm)
   have hne2 := hS2.ne_arr hA2 (by decide)
   have c5' : w2.cell? ⟨g, 5, none⟩ = some vr := hA2.cell 5
   have f5' := hA2.frozen 5
   obtain ⟨x1, cap1, rfl, hnc1, hcm1, hx1⟩ := hS2.form
   go_wp2
   go_meet
   case rel =>
    go_light
    refine ⟨_, hA2.set 5 (.slice x1 (rest.length + b.length) cap1), ?_, ?_, ?_⟩
    ·have h3 := hS2.fr (S := fun i => i = g) ((Fr.refl (fun i => i = g) w2).setCell (p := ⟨g, 5, none⟩) (.inl rfl) (.slice x1 (rest.length + b.length) cap1)) (fun i hi e => hne2 (by rw [hi, e]))
     rw [show bv (rest ++ b) = bv rest ++ bv b from by simp [bv], List.length_append]
     exact h3
    ·refine Fr.setCell (Fr.grown (hF1.mono (fun i _ e => .inl e)) hg2 (fun i hi _ => .inr hi)) (p := ⟨g, 5, none⟩) (.inl (.inl rfl)) _
    ·rcases ho2 with h | h
     ·exact .inl h
     ·exact .inr ⟨_, hsza, h⟩
  case rest =>
   clear c5 hsrc hb1 hS1 hA1
   obtain ⟨vr1, hA2, hS2, hF2, ho2⟩ := hcut
   obtain ⟨wd, rfl⟩ : ∃ wd : World, wd = wc := ⟨_, rfl⟩
   go_wp2
   go_loopg [] ((rest ++ b).length) (fun n wr => ∃ h l v, l.length ≤ n ∧ Arr wr g 89 (A6o h.list ++ [v, .int .u64 (szb : Int)]) ∧ Seg wr base 5 1 v l.length (bv l) ∧ Bpj (all ++ b) h l ∧ Fr (fun i => i = g ∨ vr.ownBlock = some i) w wr ∧ v.ownBlock = vr1.ownBlock)
   case atStart => exact ⟨h0, rest ++ b, vr1, Nat.le_refl _, hA2, hS2, hBA, hF2, rfl⟩
   case round =>
    clear hA2 hS2 hBA hF2
    obtain ⟨h, l, v, hln, hA2, hS2, hB, hF2, ho⟩ := hrel
    obtain ⟨x, capx, rfl, hnc, hcm, hx⟩ := hS2.form
    have c5 : wr.cell? ⟨g, 5, none⟩ = some (.slice x l.length capx) := hA2.cell 5
    have f5 := hA2.frozen 5
    have hne2 := hS2.ne_arr hA2 (by decide)
    by_cases hlong : 64 ≤ l.length
    ·obtain ⟨bb, off, rfl, hbb, hbw⟩ := hx (by omega)
     have hbt : Bs wr (some ⟨bb, off, none⟩) (l.take 64) := hS2.bytes.take 64
     go_wp2_with fail
     (with_reducible refine (block _ _ _ _ _ _ _ _ hB.ok hbt (by simp; omega) hA2).mono ?_)
     rintro e w3 ⟨rfl, hA3, hg3⟩
     have hS3 : Seg w3 base 5 1 (.slice (some ⟨bb, off, none⟩) l.length capx) l.length (bv l) := hS2.kept hg3 (.inr hne2)
     have hszr : wr.heap.size ≤ w3.heap.size := hg3.size
     have c5' : w3.cell? ⟨g, 5, none⟩ = some (.slice (some ⟨bb, off, none⟩) l.length capx) := hA3.cell 5
     have f5' := hA3.frozen 5
     have hB2 : Bpj (all ++ b) (blk h (l.take 64)) (l.drop 64) := ⟨by rw [← hB.eq, A8b _ _ hlong], BlQ _ _⟩
     have hdl : (l.drop 64).length = l.length - 64 := by simp
     have HDL := Lib.hid hdl; clear hdl
     generalize blk h (l.take 64) = h' at *
     clear c5 f5
     by_cases hcc : capx = 64
     ·have hl64 : l.length = 64 := by omega
      have HL := Lib.hid hl64; clear hl64
      go_wp2
      go_roundg 0
      case measure => have := HL.out; omega
      case rel =>
       go_light
       have hnil : l.drop 64 = [] := List.eq_nil_of_length_eq_zero (by rw [HDL.out, HL.out])
       have e0 : l.length - 64 = 0 := by have := HL.out; omega
       rw [e0]
       refine ⟨h', l.drop 64, .slice (some ⟨bb, off, none⟩) 0 0, by rw [hnil]; exact Nat.le_refl _, hA3.set 5 _, ?_, hB2, ?_, ho⟩
       ·rw [hnil]
        exact hS3.end0.fr ((Fr.refl (fun i => i = g) w3).setCell (p := ⟨g, 5, none⟩) (.inl rfl) _) (fun i hi e => hne2 (by rw [← e]; exact hi))
       ·exact Fr.setCell (hF2.grown hg3 (fun i hi _ => by cases hi; exact .inl rfl)) (p := ⟨g, 5, none⟩) (.inl (.inl rfl)) _
     ·have hcc2 : 64 < capx := by omega
      clear hcc
      go_wp2
      go_roundg (l.length - 64)
      case measure => omega
      case rel =>
       go_light
       refine ⟨h', l.drop 64, .slice (some ⟨bb, off + 64, none⟩) (l.length - 64) (capx - 64), by rw [HDL.out]; omega, hA3.set 5 _, ?_, hB2, ?_, ho⟩
       ·rw [HDL.out, show bv (l.drop 64) = (bv l).drop (64 * 1) from by simp [bv]]
        exact (hS3.drop rfl 64 hlong).fr ((Fr.refl (fun i => i = g) w3).setCell (p := ⟨g, 5, none⟩) (.inl rfl) _) (fun i hi e => hne2 (by rw [← e]; exact hi))
       ·exact Fr.setCell (hF2.grown hg3 (fun i hi _ => by cases hi; exact .inl rfl)) (p := ⟨g, 5, none⟩) (.inl (.inl rfl)) _
    ·go_wp2
     go_end0
     have he := hB.eq
     rw [A5O _ _ (by omega)] at he
     refine ⟨rfl, .slice x l.length capx, ⟨?_, ?_⟩, hF2, ?_⟩
     ·rw [← he]
      have e : (all ++ b).length % 18446744073709551616 = szb := by rw [HSB.out, HSZ.out, List.length_append]; omega
      rw [e]; exact hA2
     ·rw [← he]; exact hS2
     ·rw [ho]; exact ho2
end Go.Proofs.YtmlompedpahkjaaGreatDoor.Kit


namespace Go.Proofs.YtmlompedpahkjaaGreatDoor.Kit
open Go.RowKit
set_option linter.unusedVariables false

set_option maxRecDepth 100000 in
set_option maxHeartbeats 4000000 in
theorem Bx1 (g base : Nat) (vr : Value) (all : List UInt8) (w : World) (hD : Dig w base g vr all) (hlen : all.length ≤ 100000000000) :
  Calls Tryz.prog 26 #[.pointer (some ⟨g, 0, none⟩)] w fun e w' => e = .returned (.agg (bv (sha all)).toArray) ∧ A3o w w' := by
 obtain ⟨hA, hS⟩ := hD
 obtain ⟨x0, cap0, rfl, hn0, hc0, hx0⟩ := hS.form
 have hrl := BdF H0 all
 obtain ⟨sz, hsz⟩ : ∃ sz : Nat, sz = all.length % 18446744073709551616 := ⟨_, rfl⟩
 have hszl : sz < 18446744073709551616 := by omega
 rw [← hsz] at hA
 obtain ⟨hh, hhE⟩ : ∃ hh, hh = (A33 H0 all).1 := ⟨_, rfl⟩
 obtain ⟨rr, hrE⟩ : ∃ rr, rr = (A33 H0 all).2 := ⟨_, rfl⟩
 rw [← hhE] at hA
 rw [← hrE] at hS hrl hn0 hA
 have HE := Lib.hid (And.intro hsz (And.intro hhE hrE))
 clear hsz hhE hrE
 have hgl : g < w.heap.size := hA.lt
 have c0 : w.cell? ⟨g, 0, none⟩ = some (.int .u32 hh.a) := hA.cell 0
 have c1 : w.cell? ⟨g, 1, none⟩ = some (.int .u32 hh.b) := hA.cell 1
 have c2 : w.cell? ⟨g, 2, none⟩ = some (.int .u32 hh.c) := hA.cell 2
 have c3 : w.cell? ⟨g, 3, none⟩ = some (.int .u32 hh.d) := hA.cell 3
 have c4 : w.cell? ⟨g, 4, none⟩ = some (.int .u32 hh.e) := hA.cell 4
 have c5 : w.cell? ⟨g, 5, none⟩ = some (.slice x0 rr.length cap0) := hA.cell 5
 have c6 : w.cell? ⟨g, 6, none⟩ = some (.int .u64 (sz : Int)) := hA.cell 6
 go_enter Tryz.func26, Tryz.ntmps26
 go_upto_region 1 with (fail)
 go_cut [3] (fun c wc => ∃ gc vr2, c = .pointer (some ⟨gc, 0, none⟩) ∧ w.heap.size ≤ gc ∧ (∀ i, vr2.ownBlock = some i → w.heap.size ≤ i) ∧ Dig wc w.heap.size gc vr2 all ∧ A3o w wc ∧ Arr wc w.heap.size 32 (z8 20))
 case first =>
  have mk : ∀ (W : World) (gc : Nat) (v : Value), Arr W gc 89 (A6o hh.list ++ [v, .int .u64 (sz : Int)]) → Seg W w.heap.size 5 1 v rr.length (bv rr) → Dig W w.heap.size gc v all := by
   intro W gc v h1 h2
   obtain ⟨e1, e2, e3⟩ := HE.out
   exact ⟨by rw [← e2, ← e1]; exact h1, by rw [← e3]; exact h2⟩
  have hgl2 : g < w.heap.size + 1 := by omega
  have hgn1 : ¬ g = w.heap.size + 1 := by omega
  have hgn2 : ¬ w.heap.size + 1 = g := by omega
  have hgl3 : g < w.heap.size + 1 + 1 := by omega
  go_region_held3 (fun w' => w'.cell? ⟨g, 0, none⟩ = some (.int .u32 hh.a) ∧ w'.cell? ⟨g, 1, none⟩ = some (.int .u32 hh.b) ∧ w'.cell? ⟨g, 2, none⟩ = some (.int .u32 hh.c) ∧ w'.cell? ⟨g, 3, none⟩ = some (.int .u32 hh.d) ∧ w'.cell? ⟨g, 4, none⟩ = some (.int .u32 hh.e) ∧ w'.cell? ⟨g, 5, none⟩ = some (.slice x0 rr.length cap0) ∧ w'.cell? ⟨g, 6, none⟩ = some (.int .u64 (sz : Int)))
   (first
    | go_keep)
   ((refine BhA _ (by rfl) (.const (.slice none 0 0)) (.tmp 16) 23 23 (by rfl) w.heap.size 5 (.int .u8 0) 1 1 Tryz.underlying23 Tryz.infoU8 rfl (.slice none 0 0) 0 [] (by rfl) (Seg.nil _ _ _ _) (.slice x0 rr.length cap0) rr.length (bv rr) (by rfl) (by exact Bs.srcOf (Bs.keep hS.bytes (by first | exact A3o.drew ((A3o.refl w).alloc _) | exact A3o.drew (((A3o.refl w).alloc _).alloc _))) Tryz.underlying23 cap0 (fun _ => rfl)) (by unfold maxLen; omega) (by omega) (by simp <;> omega) ?_; intro v1 w1 hS1 hg1 ho1; obtain ⟨hcw, hfw⟩ := Bxd hg1; obtain ⟨x1, cap1, rfl, hn1, hc1, hx1⟩ := hS1.form; have h9 := hg1.size; simp at h9; have hgl1 : g < w1.heap.size := by omega))
  ·go_wp2
   go_meet
   case rel =>
    go_light
    have hk1 : A3o w w1 := A3o.trans (A3o.drew ((A3o.refl w).alloc _)) (A44 hg1)
    simp only [Nat.zero_add, List.nil_append] at hS1
    refine ⟨_, .slice x1 rr.length cap1, rfl, Below.size hk1, fun i hi => (hS1.lt i hi).1, mk _ _ _ (Arr.new _ _ _) (hS1.alloc _), hk1.alloc _, Arr.alloc (Arr.keep (Arr.drew (Arr.new w _ _)) (A44 hg1)) _⟩
  ·go_wp2
   go_meet
   case rel =>
    go_light
    have hk0 : A3o w _ := A3o.drew (((A3o.refl w).alloc (.cells #[.int .u8 0, .int .u8 0, .int .u8 0, .int .u8 0, .int .u8 0, .int .u8 0, .int .u8 0, .int .u8 0, .int .u8 0, .int .u8 0, .int .u8 0, .int .u8 0, .int .u8 0, .int .u8 0, .int .u8 0, .int .u8 0, .int .u8 0, .int .u8 0, .int .u8 0, .int .u8 0] 32)).alloc (.cells #[.int .u32 0, .int .u32 0, .int .u32 0, .int .u32 0, .int .u32 0, .slice none 0 0, .int .u64 0] 89))
    have hk1 : A3o w w1 := A3o.trans hk0 (A44 hg1)
    simp only [Nat.zero_add, List.nil_append] at hS1
    have hA0 : Arr w1 (w.heap.size + 1) 89 [.int .u32 0, .int .u32 0, .int .u32 0, .int .u32 0, .int .u32 0, .slice none 0 0, .int .u64 0] := Arr.keep (Arr.drewN (Arr.newAt _ _ _ _ (by simp)) 1) (A44 hg1)
    have hne1 := hS1.ne_arr hA0 (by decide)
    have hI0 : Arr w1 w.heap.size 32 (z8 20) := Arr.keep (Arr.drew (Arr.alloc (Arr.new w _ _) _)) (A44 hg1)
    have hin : w.heap.size ≠ w.heap.size + 1 := by omega
    refine ⟨w.heap.size + 1, .slice x1 rr.length cap1, rfl, by omega, fun i hi => (hS1.lt i hi).1, mk _ _ _ (((((((hA0.set 0 _).set 1 _).set 2 _).set 3 _).set 4 _).set 5 _).set 6 _) (hS1.fr (S := fun i => i = w.heap.size + 1) (Fr.setCell (Fr.setCell (Fr.setCell (Fr.setCell (Fr.setCell (Fr.setCell (Fr.setCell (Fr.refl (fun i => i = w.heap.size + 1) w1) (p := ⟨w.heap.size + 1, 0, none⟩) (.inl rfl) _) (p := ⟨w.heap.size + 1, 1, none⟩) (.inl rfl) _) (p := ⟨w.heap.size + 1, 2, none⟩) (.inl rfl) _) (p := ⟨w.heap.size + 1, 3, none⟩) (.inl rfl) _) (p := ⟨w.heap.size + 1, 4, none⟩) (.inl rfl) _) (p := ⟨w.heap.size + 1, 5, none⟩) (.inl rfl) _) (p := ⟨w.heap.size + 1, 6, none⟩) (.inl rfl) _) (fun i hi e => hne1 (by rw [hi, e]))), ?_, (((((((hI0.other _ _ hin).other _ _ hin).other _ _ hin).other _ _ hin).other _ _ hin).other _ _ hin).other _ _ hin)⟩
    have hle : w.heap.size ≤ w.heap.size + 1 := by omega
    exact Below.setCell (Below.setCell (Below.setCell (Below.setCell (Below.setCell (Below.setCell (Below.setCell hk1 (p := ⟨w.heap.size + 1, 0, none⟩) hle _) (p := ⟨w.heap.size + 1, 1, none⟩) hle _) (p := ⟨w.heap.size + 1, 2, none⟩) hle _) (p := ⟨w.heap.size + 1, 3, none⟩) hle _) (p := ⟨w.heap.size + 1, 4, none⟩) hle _) (p := ⟨w.heap.size + 1, 5, none⟩) hle _) (p := ⟨w.heap.size + 1, 6, none⟩) hle _
 case rest =>
  clear hA hS hx0 hc0 hn0 hgl c0 c1 c2 c3 c4 c5 c6
  obtain ⟨gc, vr2, rfl, hgc, hvr2, hD2, hk2, hI2⟩ := hcut
  obtain ⟨wa, rfl⟩ : ∃ wa : World, wa = wc := ⟨_, rfl⟩
  have c6 : wa.cell? ⟨gc, 6, none⟩ = some (.int .u64 (sz : Int)) := by rw [HE.out.1]; exact hD2.arr.cell 6
  have hgcl := hD2.arr.lt
  have hszw : w.heap.size ≤ wa.heap.size := Below.size hk2
  obtain ⟨k, hk⟩ : ∃ k : Nat, k = (119 - sz % 64) % 64 := ⟨_, rfl⟩
  have hk64 : k < 64 := by omega
  have s1 : ((119 : Int) - (sz : Int) % 64) % 64 = (k : Int) := by omega
  have HK := Lib.hid hk; clear hk
  have hseg0 : Seg (wa.alloc (.cells #[.int .u8 128] 5)) wa.heap.size 5 1 (.slice (some ⟨wa.heap.size, 0, none⟩) 1 1) 1 [.int .u8 128] := Seg.made wa #[.int .u8 128] 1 1 (Nat.le_refl _) (Nat.le_refl _) (by unfold maxLen; omega) (Nat.le_refl _)
  have hmkz := Bdi (P := Tryz.prog) _ wa.heap.size 23 3 23 5 (.int .u8 0) 1 .i64 .i64 Tryz.underlying23 Tryz.underlying3 Tryz.infoU8 rfl wa.heap.size 0 1 [.int .u8 128] hseg0 k (by unfold maxLen; omega) (by omega)
  obtain ⟨v', w1, hr, hS1, hg1⟩ := hmkz
  rw [← s1] at hr
  have HR := Lib.hid hr; clear hr hseg0 s1
  go_upto_region 3 with (fail)
  go_cut [5] (fun v wr => v = v' ∧ wr = w1)
  case first =>
   go_wp2_with (at_builtin; go_must (refine Lib.wpList_append_run _ rfl (.tmp 26) (.tmp 32) 23 3 rfl _ _ rfl rfl v' w1 HR.out ?_))
   go_wp2
   go_meet
   case rel => exact ⟨rfl, rfl⟩
  case rest =>
   obtain ⟨rfl, rfl⟩ := hcut
   have hkw : A3o wa wc := A3o.trans ((A3o.refl wa).alloc _) (A44 hg1)
   have hsp : Seg wc wa.heap.size 5 1 u5 (1 + k) (bv (128 :: List.replicate k 0)) := by
    have e : bv (128 :: List.replicate k 0) = [Value.int .u8 128] ++ List.replicate k (Value.int .u8 0) := by simp [bv]
    rw [e]; exact hS1
   clear hg1 hS1 HR c6
   obtain ⟨nn, hnn⟩ : ∃ nn : Nat, nn = sz * 8 % 18446744073709551616 := ⟨_, rfl⟩
   have hn4 : IntKind.u64.wrap ((sz : Int) * 8) = (nn : Int) := by rw [IntKind.wrap_u64]; omega
   have hnl : nn < 18446744073709551616 := by omega
   have HN := Lib.hid hnn; clear hnn
   rw [hn4]
   clear hn4
   obtain ⟨wb, rfl⟩ : ∃ wb : World, wb = wc := ⟨_, rfl⟩
   go_upto_block 0 with (fail)
   go_cut [5] (fun v wr => ∃ m : List UInt8, m = 128 :: List.replicate k 0 ++ be8 nn ∧ Seg wr wa.heap.size 5 1 v m.length (bv m) ∧ A3o wa wr)
   case first =>
    go_wp2
    go_loopg [5, 6, 34] 8 (fun gn v _ iv wr => ∃ (i : Nat) (m : List UInt8), i ≤ 8 ∧ 8 ≤ i + gn ∧ iv = .int .i64 i ∧ Hid (m = 128 :: List.replicate k 0 ++ (be8 nn).take i) ∧ Seg wr wa.heap.size 5 1 v m.length (bv m) ∧ A3o wa wr)
    case atStart => exact ⟨0, 128 :: List.replicate k 0, by omega, by omega, rfl, by simp [Hid], by simpa [Nat.add_comm] using hsp, hkw⟩
    case round =>
     clear hsp hkw
     obtain ⟨i, m, hi, hig, rfl, hm, hsp, hkw⟩ := hrel
     by_cases hlt : i < 8
     ·have hmi : (i : Int) < 8 := by omega
      have hml : m.length ≤ 1000 := by rw [hm.out]; simp [A6S]; omega
      go_wp2_with (at_builtin; go_must (refine A4u _ rfl (.tmp 37) (.tmp 44) 23 23 rfl wa.heap.size 5 (.int .u8 0) 1 1 Tryz.underlying23 Tryz.infoU8 rfl _ _ _ rfl (hsp.alloc _) _ 1 [_] rfl (Bjn Tryz.underlying23 _ _ _ rfl) ?c1 ?c2 ?c3 ?_))
      case c1 => unfold maxLen; omega
      case c2 => omega
      case c3 => exact Nat.le_trans (Below.size hkw) (by simp)
      intro v2 w2 hS2 hg2 ho2
      have hkw2 : A3o wa w2 := by
       refine Below.grown (hkw.alloc _) hg2 (Nat.le_trans (Below.size hkw) (by simp)) (fun j hj => (hsp.lt j hj).1)
      have e8 := BcU (nn / 2 ^ (56 - 8 * i))
      have hb8 := BmE nn i hlt
      generalize hy : UInt8.ofNat (nn / 2 ^ (56 - 8 * i) % 256) = y at *
      have HY := Lib.hid (And.intro e8 hb8)
      clear e8 hb8 hy
      go_wp2
      go_roundg (gk - 1)
      case measure => omega
      case rel =>
       go_light
       refine ⟨i + 1, m ++ [y], by omega, by omega, by go_num, ?_, ?_, hkw2⟩
       ·show m ++ [y] = _
        rw [HY.out.2, ← List.append_assoc, ← hm.out]
       ·rw [Bl8 m y (by rw [HY.out.1]; rfl)] at hS2
        rw [List.length_append]; exact hS2
     ·go_wp2
      go_meet
      case rel =>
       go_light
       refine ⟨m, ?_, hsp, hkw⟩
       rw [hm.out, List.take_of_length_le (by rw [A6S]; omega)]
   case rest =>
    clear hsp hkw
    obtain ⟨m, hm, hsp, hkw⟩ := hcut
    have hpad : m = BfJ all.length := by
     rw [hm, BfJ, HN.out, HK.out, HE.out.1]
     rw [show all.length % 18446744073709551616 % 64 = all.length % 64 from by omega, show all.length % 18446744073709551616 * 8 % 18446744073709551616 = all.length * 8 % 18446744073709551616 from by omega]
    have HP := Lib.hid hpad
    have hml : m.length ≤ 1000 := by rw [hm]; simp [A6S]; omega
    clear hm hpad
    obtain ⟨x5, cap5, rfl, hn5, hc5, hx5⟩ := hsp.form
    have hD3 := hD2.fr (S := fun _ => False) (Fr.of_keeps hkw _) (fun h => h) (fun _ _ h => h)
    have hag : 0 < m.length → ∀ p, x5 = some p → p.block ≠ gc := by
     intro _ p hp e
     have h1 := (hsp.lt p.block (by rw [hp]; rfl)).1
     omega
    obtain ⟨we, rfl⟩ : ∃ we : World, we = wc := ⟨_, rfl⟩
    have hszb : wa.heap.size ≤ we.heap.size := Below.size hkw
    go_wp2_with fail
    (with_reducible refine (Buo _ _ _ _ _ _ _ _ hD3 hsp.bytes hag (by omega) (by omega)).mono ?_)
    rintro e w4 ⟨rfl, vr4, hD4, hF4, _⟩
    have hk4 : A3o w w4 := ((Fr.of_keeps (A3o.trans hk2 hkw) (fun _ => False)).then hF4 (fun i hi h => by
     rcases h with h | h
     ·omega
     ·have := hvr2 i h; omega)).keeps (fun _ _ h => h)
    have hI4 : Arr w4 w.heap.size 32 (z8 20) := (hI2.keep hkw).fr hF4 (fun h => by
     rcases h with h | h
     ·exact hI2.ne hD2.arr (by decide) h
     ·exact hD2.seg.ne_arr hI2 (by decide) h)
    rw [HP.out] at hD4
    have hA4 := hD4.arr
    have hV : (A33 H0 (all ++ BfJ all.length)).1.ok := Bhb _ _ BqM
    have hsha : sha all = A4M (A33 H0 (all ++ BfJ all.length)).1 := rfl
    have HS := Lib.hid hsha; clear hsha
    generalize (A33 H0 (all ++ BfJ all.length)).1 = V at *
    clear hD4 hF4 hD3 hsp hD2 hkw hag hx5
    go_upto_block 2 with (fail)
    have hid0 : Arr (w4.alloc (.cells #[.int .u8 0, .int .u8 0, .int .u8 0, .int .u8 0, .int .u8 0, .int .u8 0, .int .u8 0, .int .u8 0, .int .u8 0, .int .u8 0, .int .u8 0, .int .u8 0, .int .u8 0, .int .u8 0, .int .u8 0, .int .u8 0, .int .u8 0, .int .u8 0, .int .u8 0, .int .u8 0] 32)) w4.heap.size 32 (bv ((A4M V).take 0) ++ z8 (20 - 0)) := Arr.new _ _ _
    have hA5 := hA4.alloc (.cells #[.int .u8 0, .int .u8 0, .int .u8 0, .int .u8 0, .int .u8 0, .int .u8 0, .int .u8 0, .int .u8 0, .int .u8 0, .int .u8 0, .int .u8 0, .int .u8 0, .int .u8 0, .int .u8 0, .int .u8 0, .int .u8 0, .int .u8 0, .int .u8 0, .int .u8 0, .int .u8 0] 32)
    have hI5 := hI4.alloc (.cells #[.int .u8 0, .int .u8 0, .int .u8 0, .int .u8 0, .int .u8 0, .int .u8 0, .int .u8 0, .int .u8 0, .int .u8 0, .int .u8 0, .int .u8 0, .int .u8 0, .int .u8 0, .int .u8 0, .int .u8 0, .int .u8 0, .int .u8 0, .int .u8 0, .int .u8 0, .int .u8 0] 32)
    have hk5 := hk4.alloc (.cells #[.int .u8 0, .int .u8 0, .int .u8 0, .int .u8 0, .int .u8 0, .int .u8 0, .int .u8 0, .int .u8 0, .int .u8 0, .int .u8 0, .int .u8 0, .int .u8 0, .int .u8 0, .int .u8 0, .int .u8 0, .int .u8 0, .int .u8 0, .int .u8 0, .int .u8 0, .int .u8 0] 32)
    have l4 := hA4.lt
    have l5 := hI4.lt
    have hk4s : w.heap.size ≤ w4.heap.size := Below.size hk4
    go_cut [] (fun wr => Arr wr w4.heap.size 32 (bv (A4M V)) ∧ Arr wr w.heap.size 32 (z8 20) ∧ A3o w wr)
    case first =>
     go_wp2
     go_loopg [8, 49] 20 (fun gn _ iv wr => ∃ i : Nat, i ≤ 20 ∧ 20 ≤ i + gn ∧ iv = .int .i64 i ∧ Arr wr w4.heap.size 32 (bv ((A4M V).take i) ++ z8 (20 - i)) ∧ Arr wr gc 89 (A6o V.list ++ [vr4, .int .u64 (((all ++ BfJ all.length).length % 18446744073709551616 : Nat) : Int)]) ∧ Arr wr w.heap.size 32 (z8 20) ∧ A3o w wr)
     case atStart => exact ⟨0, by omega, by omega, rfl, hid0, hA5, hI5, hk5⟩
     case round =>
      clear hid0 hA5 hI5 hk5 hA4 hI4 hk4
      obtain ⟨i, hi, hig, rfl, hid, hA, hI, hk⟩ := hrel
      by_cases hlt : i < 20
      ·have hmi : (i : Int) < 20 := by omega
       have hq4 : (i : Int) / 4 < 5 := by omega
       have ci : wr.cell? ⟨w4.heap.size, i, none⟩ = some (.int .u8 0) := by rw [hid.cell]; exact BmN V i hlt
       have fi := hid.frozen i
       have ch : wr.cell? ⟨gc, i / 4, none⟩ = some (.int .u32 ((V.list.getD (i / 4) 0 : Nat) : Int)) := by
        rw [hA.cell, List.getElem?_append_left (by simp [V5.list]; omega)]; exact Be3 V _ (by omega)
       have hbv := hV.get (i / 4)
       have e8 := BcU (V.list.getD (i / 4) 0 / 2 ^ (24 - 8 * (i % 4)))
       have hb8 := Bit V i hlt
       generalize hy : UInt8.ofNat (V.list.getD (i / 4) 0 / 2 ^ (24 - 8 * (i % 4)) % 256) = y at *
       have HY := Lib.hid (And.intro e8 hb8)
       clear e8 hb8 hy
       generalize V.list.getD (i / 4) 0 = q at *
       go_wp2
       go_roundg (gk - 1)
       case measure => omega
       case rel =>
        go_light
        have n1 : gc ≠ w4.heap.size := by omega
        have n2 : w.heap.size ≠ w4.heap.size := by omega
        refine ⟨i + 1, by omega, by omega, by go_num, ?_, hA.other _ _ n1, hI.other _ _ n2, Below.setCell hk (p := ⟨w4.heap.size, i, none⟩) (by show w.heap.size ≤ w4.heap.size; omega) _⟩
        have h5 := hid.set i (.int .u8 ((q : Int) / 2 ^ (24 - 8 * (i % 4)) % 256))
        rw [Bqx V i hlt HY.out.2 (by rw [HY.out.1]; rfl)] at h5
        exact h5
      ·have HI := Lib.hid (show i = 20 by omega)
       rw [HI.out] at hid
       go_wp2
       go_meet
       case rel =>
        go_light
        refine ⟨?_, hI, hk⟩
        have e : bv ((A4M V).take 20) ++ z8 (20 - 20) = bv (A4M V) := by
         rw [List.take_of_length_le (by rw [A4f]; omega)]; simp [z8]
        rw [← e]; exact hid
    case rest =>
     clear hid0 hA5 hI5 hk5 hA4 hI4 hk4 l4 l5 hk4s
     obtain ⟨hid, hI, hk⟩ := hcut
     have hl : (bv (A4M V)).length = (z8 20).length := by rw [A6e, A4f]; rfl
     have hsa := hI.setAll hl
     have hks := A3o.setCells (Nat.le_refl _) (bv (A4M V)) 0 _ hk
     have hth := hI.there 20 (by simp [z8])
     unfold Arr at hid hsa
     have z1 : (Tryz.prog.info? 32).map (·.size) = some (bv (A4M V)).toArray.size := by rw [List.size_toArray, A6e, A4f]; kernel_rfl
     have z2 : wc.there w.heap.size 0 (bv (A4M V)).toArray.size := by rw [show (bv (A4M V)).toArray.size = 20 from by simp [A4f]]; exact hth
     have z3 := all_oneCell_toArray (Be4 (A4M V))
     have Z1 := Lib.hid z1
     clear z1
     clear hth
     go_upto_region 16 with (fail)
     go_wp2_with (first | (with_reducible refine wpList_load_row rfl 32 (.tmp 7) rfl _ rfl 32 (bv (A4M V)).toArray (0, 0) _ hid Tryz.underlying32 rfl Z1.out ?_) | (with_reducible refine wpList_store_mid rfl 32 (.tmp 2) (.tmp 66) rfl w.heap.size 0 (bv (A4M V)).toArray rfl rfl z2 Z1.out z3 ?_))
     rw [HS.out]
     refine bodyPost_ret (results_cell_row rfl _ _ w.heap.size 32 (bv (A4M V)).toArray (0, 0) _ rfl hsa Tryz.underlying32 rfl Z1.out) rfl ⟨rfl, hks⟩
end Go.Proofs.YtmlompedpahkjaaGreatDoor.Kit


namespace Go.Proofs.YtmlompedpahkjaaGreatDoor.Kit
open Go.RowKit
set_option linter.unusedVariables false

theorem BDo (l : List UInt8) (hl : l.length = 20) : (bv l).length = (z8 20).length := by rw [A6e, hl]; rfl

set_option maxRecDepth 100000 in
set_option maxHeartbeats 1000000 in
theorem BxO (a : Option Addr) (cap : Nat) (b : List UInt8) (w : World) (hb : Bs w a b) (hbl : b.length ≤ 1000000000) :
  Calls Tryz.prog 16 #[.slice a b.length cap] w fun e w' => e = .returned (.agg (bv (sha b)).toArray) ∧ A3o w w' := by
 go_enter Tryz.func16, Tryz.ntmps16
 go_wp2_with fail
 have hI0 : Arr (w.alloc (.cells #[.int .u8 0, .int .u8 0, .int .u8 0, .int .u8 0, .int .u8 0, .int .u8 0, .int .u8 0, .int .u8 0, .int .u8 0, .int .u8 0, .int .u8 0, .int .u8 0, .int .u8 0, .int .u8 0, .int .u8 0, .int .u8 0, .int .u8 0, .int .u8 0, .int .u8 0, .int .u8 0] 32)) w.heap.size 32 (z8 20) := Arr.new _ _ _
 have hk0 := (A3o.refl w).alloc (.cells #[.int .u8 0, .int .u8 0, .int .u8 0, .int .u8 0, .int .u8 0, .int .u8 0, .int .u8 0, .int .u8 0, .int .u8 0, .int .u8 0, .int .u8 0, .int .u8 0, .int .u8 0, .int .u8 0, .int .u8 0, .int .u8 0, .int .u8 0, .int .u8 0, .int .u8 0, .int .u8 0] 32)
 (with_reducible refine (Bxm _).mono ?_)
 rintro e w1 ⟨rfl, hD, hk1⟩
 have hI1 := hI0.keep hk1
 have hk2 := A3o.trans hk0 hk1
 have hsz : w.heap.size ≤ w1.heap.size := Below.size hk2
 rw [World.size_alloc] at hD
 have hag : 0 < b.length → ∀ p, a = some p → p.block ≠ w.heap.size + 1 := by
  intro hl p hp e
  have := hb.lt hl p hp; omega
 clear hI0 hk0 hk1
 go_wp2_with fail
 (with_reducible refine (Buo _ _ _ _ _ _ _ _ hD (hb.keep hk2) hag hbl (by omega)).mono ?_)
 rintro e w2 ⟨rfl, vr, hD2, hF2, ho⟩
 simp only [List.nil_append] at hD2
 have hI2 : Arr w2 w.heap.size 32 (z8 20) := hI1.fr hF2 (fun h => by
  rcases h with h | h
  ·omega
  ·cases h)
 have hk3 : A3o w w2 := ((Fr.of_keeps hk2 (fun _ => False)).then hF2 (fun i hi h => by
  rcases h with h | h
  ·omega
  ·cases h)).keeps (fun _ _ h => h)
 go_wp2_with fail
 (with_reducible refine (Bx1 _ _ _ _ _ hD2 (by omega)).mono ?_)
 rintro e w3 ⟨rfl, hk4⟩
 have hk := A3o.trans hk3 hk4
 have hI := hI2.keep hk4
 clear hk3 hk4 hI2 hD2 hF2 ho hD hI1 hk2
 have hl : (sha b).length = 20 := BaK b
 generalize hX : sha b = X at *
 have HX := Lib.hid hX; clear hX
 have hsa := hI.setAll (BDo X hl)
 have hks := A3o.setCells (Nat.le_refl _) (bv X) 0 _ hk
 have z1 : (Tryz.prog.info? 32).map (·.size) = some (bv X).toArray.size := by rw [List.size_toArray, A6e, hl]; kernel_rfl
 have z2 : w3.there w.heap.size 0 (bv X).toArray.size := by rw [show (bv X).toArray.size = 20 from by simp [hl]]; exact hI.there 20 (by simp [z8])
 have z3 := all_oneCell_toArray (Be4 X)
 have Z1 := Lib.hid z1
 clear z1
 unfold Arr at hsa
 go_wp2_with (with_reducible refine wpList_store_mid rfl 32 (.tmp 2) (.tmp 9) rfl w.heap.size 0 (bv X).toArray rfl rfl z2 Z1.out z3 ?_)
 refine bodyPost_ret (results_cell_row rfl _ _ w.heap.size 32 (bv X).toArray (0, 0) _ rfl hsa Tryz.underlying32 rfl Z1.out) rfl ⟨by rw [HX.out], hks⟩
end Go.Proofs.YtmlompedpahkjaaGreatDoor.Kit


namespace Go.Proofs.YtmlompedpahkjaaGreatDoor.Kit
open Go.RowKit
set_option linter.unusedVariables false


def Z80 : Array Value := (BfK 80).toArray
theorem Tryz.zero80 (w : World) : (zeroValue 104).run Tryz.prog w = .ok (.agg Z80) w := by kernel_rfl

set_option maxRecDepth 100000 in
set_option maxHeartbeats 4000000 in
theorem BtQ (h : V5) (a : Option Addr) (cap : Nat) (p : List UInt8) (w : World) (hh : h.ok) (hb : Bs w a p) (hp : p.length = 64) :
  Calls Tryz.prog 31 #[.agg #[.int .u32 h.a, .int .u32 h.b, .int .u32 h.c, .int .u32 h.d, .int .u32 h.e], .slice a 64 cap] w fun e w' =>
   e = .returned (.agg #[.int .u32 (blk h p).a, .int .u32 (blk h p).b, .int .u32 (blk h p).c, .int .u32 (blk h p).d, .int .u32 (blk h p).e]) ∧ A3o w w' := by
 have HP := Lib.hid hp
 have hz := Tryz.zero80
 clear hp
 go_enter Tryz.func31, Tryz.ntmps31
 go_upto_block 0 with (fail)
 have h0 : Arr (((w.alloc (.cells #[.int .u32 h.a, .int .u32 h.b, .int .u32 h.c, .int .u32 h.d, .int .u32 h.e] 79)).alloc (.cells #[.int .u32 0, .int .u32 0, .int .u32 0, .int .u32 0, .int .u32 0] 79)).alloc (.cells Z80 104)) w.heap.size 79 (A6o h.list) := ((Arr.new _ _ _).alloc _).alloc _
 have h1 : Arr (((w.alloc (.cells #[.int .u32 h.a, .int .u32 h.b, .int .u32 h.c, .int .u32 h.d, .int .u32 h.e] 79)).alloc (.cells #[.int .u32 0, .int .u32 0, .int .u32 0, .int .u32 0, .int .u32 0] 79)).alloc (.cells Z80 104)) (w.heap.size + 1) 79 (BfK 5) := (Arr.newAt _ _ _ _ (by simp)).alloc _
 have h2 : Arr (((w.alloc (.cells #[.int .u32 h.a, .int .u32 h.b, .int .u32 h.c, .int .u32 h.d, .int .u32 h.e] 79)).alloc (.cells #[.int .u32 0, .int .u32 0, .int .u32 0, .int .u32 0, .int .u32 0] 79)).alloc (.cells Z80 104)) (w.heap.size + 1 + 1) 104 (BfK 80) := Arr.newAt _ _ _ _ (by simp)
 have hk0 : A3o w (((w.alloc (.cells #[.int .u32 h.a, .int .u32 h.b, .int .u32 h.c, .int .u32 h.d, .int .u32 h.e] 79)).alloc (.cells #[.int .u32 0, .int .u32 0, .int .u32 0, .int .u32 0, .int .u32 0] 79)).alloc (.cells Z80 104)) := (((A3o.refl w).alloc _).alloc _).alloc _
 go_cut [] (fun wc => Arr wc (w.heap.size + 1 + 1) 104 (A6o (wl p 16) ++ BfK (80 - 16)) ∧ Arr wc w.heap.size 79 (A6o h.list) ∧ Arr wc (w.heap.size + 1) 79 (BfK 5) ∧ A3o w wc)
 case first =>
  go_wp2
  go_loopw [6] (fun i wr => ∃ k : Nat, k ≤ 16 ∧ i = .int .i64 k ∧ Arr wr (w.heap.size + 1 + 1) 104 (A6o (wl p k) ++ BfK (80 - k)) ∧ Arr wr w.heap.size 79 (A6o h.list) ∧ Arr wr (w.heap.size + 1) 79 (BfK 5) ∧ A3o w wr) (fun i _ => 16 - (intOf i).toNat)
  case atStart => exact ⟨0, by omega, rfl, h2, h0, h1, hk0⟩
  case round =>
   clear h0 h1 h2 hk0
   obtain ⟨k, hk, rfl, h2, h0, h1, hk0⟩ := hrel
   by_cases hlt : k < 16
   ·have hc : wr.cell? ⟨w.heap.size + 1 + 1, k, none⟩ = some (.int .u32 0) := by rw [h2.cell]; exact BlG p k (by omega)
    have hf := h2.frozen k
    go_wp2_with fail
    (with_reducible refine (BqX _ _ _ _ _ (hb.keep hk0) HP.out (by omega)).mono ?_)
    rintro e w' ⟨rfl, n, rfl⟩
    go_wp2
    go_roundw
    case rel =>
     go_light
     refine ⟨k + 1, by omega, by go_num, ?_, h0.other _ _ (by simp; omega), h1.other _ _ (by simp), Below.setCell (hk0.drewN n) (by simp; omega) _⟩
     have h3 := Arr.set (h2.drewN n) k (.int .u32 ((BqE p (4 * k) : Nat) : Int))
     rw [BmM p k _ (by omega) (by unfold BjQ; rw [if_pos hlt])] at h3
     exact h3
    case measure => simp [intOf]; omega
   ·have HK := Lib.hid (show k = 16 by omega)
    rw [HK.out] at h2
    go_wp2
    go_meet
    case rel => exact ⟨h2, h0, h1, hk0⟩
 case rest =>
  clear h0 h1 h2 hk0
  obtain ⟨h2, h0, h1, hk0⟩ := hcut
  go_upto_block 2 with (fail)
  go_cut [] (fun wc => Arr wc (w.heap.size + 1 + 1) 104 (A6o (wl p 80) ++ BfK (80 - 80)) ∧ Arr wc w.heap.size 79 (A6o h.list) ∧ Arr wc (w.heap.size + 1) 79 (BfK 5) ∧ A3o w wc)
  case first =>
   go_wp2
   go_loopw [7, 8] (fun i _ wr => ∃ k : Nat, 16 ≤ k ∧ k ≤ 80 ∧ i = .int .i64 k ∧ Arr wr (w.heap.size + 1 + 1) 104 (A6o (wl p k) ++ BfK (80 - k)) ∧ Arr wr w.heap.size 79 (A6o h.list) ∧ Arr wr (w.heap.size + 1) 79 (BfK 5) ∧ A3o w wr) (fun i _ _ => 80 - (intOf i).toNat)
   case atStart => exact ⟨16, by omega, by omega, rfl, h2, h0, h1, hk0⟩
   case round =>
    clear h0 h1 h2 hk0
    obtain ⟨k, hk16, hk, rfl, h2, h0, h1, hk0⟩ := hrel
    by_cases hlt : k < 80
    ·have hc : wr.cell? ⟨w.heap.size + 1 + 1, k, none⟩ = some (.int .u32 0) := by rw [h2.cell]; exact BlG p k (by omega)
     have hf := h2.frozen k
     have r3 : wr.cell? ⟨w.heap.size + 1 + 1, k - 3, none⟩ = some (.int .u32 (((wl p k).getD (k - 3) 0 : Nat) : Int)) := by rw [h2.cell]; exact Bbq p k _ (by omega)
     have r8 : wr.cell? ⟨w.heap.size + 1 + 1, k - 8, none⟩ = some (.int .u32 (((wl p k).getD (k - 8) 0 : Nat) : Int)) := by rw [h2.cell]; exact Bbq p k _ (by omega)
     have r14 : wr.cell? ⟨w.heap.size + 1 + 1, k - 14, none⟩ = some (.int .u32 (((wl p k).getD (k - 14) 0 : Nat) : Int)) := by rw [h2.cell]; exact Bbq p k _ (by omega)
     have r16 : wr.cell? ⟨w.heap.size + 1 + 1, k - 16, none⟩ = some (.int .u32 (((wl p k).getD (k - 16) 0 : Nat) : Int)) := by rw [h2.cell]; exact Bbq p k _ (by omega)
     have hn : BjQ p (wl p k) k = rot ((((wl p k).getD (k - 3) 0 ^^^ (wl p k).getD (k - 8) 0) ^^^ (wl p k).getD (k - 14) 0) ^^^ (wl p k).getD (k - 16) 0) 1 := by unfold BjQ; rw [if_neg (by omega)]
     have b3 := A51 p k (k - 3)
     have b8 := A51 p k (k - 8)
     have b14 := A51 p k (k - 14)
     have b16 := A51 p k (k - 16)
     generalize (wl p k).getD (k - 3) 0 = x3 at *
     generalize (wl p k).getD (k - 8) 0 = x8 at *
     generalize (wl p k).getD (k - 14) 0 = x14 at *
     generalize (wl p k).getD (k - 16) 0 = x16 at *
     have HN := Lib.hid hn; clear hn
     go_wp2
     go_quiet (fail)
     go_wp2_with fail
     rw [BmZ _ _ _ _ b3 b8 b14 b16]
     (with_reducible refine (turn _ _ _ (A31 (A31 (A31 b3 b8) b14) b16) (.inl rfl)).mono ?_)
     rintro e w' ⟨rfl, n2, rfl⟩
     go_wp2
     go_roundw
     case rel =>
      go_light
      refine ⟨k + 1, by omega, by omega, by go_num, ?_, h0.other _ _ (by simp; omega), h1.other _ _ (by simp), Below.setCell (hk0.drewN _) (by simp; omega) _⟩
      have h3 := Arr.set (h2.drewN (nq + n2)) k (.int .u32 (((rot (((x3 ^^^ x8) ^^^ x14) ^^^ x16) 1 : Nat) : Int)))
      rw [BmM p k _ (by omega) HN.out.symm] at h3
      exact h3
     case measure => simp [intOf]; omega
    ·have HK := Lib.hid (show k = 80 by omega)
     rw [HK.out] at h2
     go_wp2
     go_meet
     case rel => exact ⟨h2, h0, h1, hk0⟩
  case rest =>
   clear h0 h1 h2 hk0
   obtain ⟨h2, h0, h1, hk0⟩ := hcut
   obtain ⟨c0, c1, c2, c3, c4⟩ := h0.five
   go_upto_block 4 with (fail)
   have hv0 : Arr (wc.alloc (.cells #[.int .u32 h.a, .int .u32 h.b, .int .u32 h.c, .int .u32 h.d, .int .u32 h.e] 79)) wc.heap.size 79 (A6o h.list) := Arr.new _ _ _
   have l0 := h0.lt
   have l1 := h1.lt
   have l2 := h2.lt
   obtain ⟨wo, rfl⟩ : ∃ wo : World, wo = wc := ⟨_, rfl⟩
   clear c0 c1 c2 c3 c4
   go_cut [] (fun wc => Arr wc wo.heap.size 79 (A6o (Bld 0 h (wl p 80)).list) ∧ Arr wc w.heap.size 79 (A6o h.list) ∧ Arr wc (w.heap.size + 1) 79 (BfK 5) ∧ A3o w wc)
   case first =>
    go_wp2
    go_loopw [10, 11, 12, 13] (fun i _ _ _ wr => ∃ (i' : Nat) (v : V5), i' ≤ 80 ∧ i = .int .i64 i' ∧ v.ok ∧ Arr wr wo.heap.size 79 (A6o v.list) ∧ BcJ p h i' v ∧ Arr wr (w.heap.size + 1 + 1) 104 (A6o (wl p 80) ++ BfK (80 - 80)) ∧ Arr wr w.heap.size 79 (A6o h.list) ∧ Arr wr (w.heap.size + 1) 79 (BfK 5) ∧ A3o w wr) (fun i _ _ _ _ => 80 - (intOf i).toNat)
    case atStart => exact ⟨0, h, by omega, rfl, hh, hv0, BcJ.zero p h, h2.alloc _, h0.alloc _, h1.alloc _, hk0.alloc _⟩
    case round =>
     clear h0 h1 h2 hk0 hv0
     obtain ⟨i, v, hi, rfl, hv, hva, hr, h2, h0, h1, hk0⟩ := hrel
     by_cases hlt : i < 80
     ·obtain ⟨c0, c1, c2, c3, c4⟩ := hva.five
      have f0 := hva.frozen 0
      have f1 := hva.frozen 1
      have f2 := hva.frozen 2
      have f3 := hva.frozen 3
      have f4 := hva.frozen 4
      have cw : wr.cell? ⟨w.heap.size + 1 + 1, i, none⟩ = some (.int .u32 (((wl p 80).getD i 0 : Nat) : Int)) := by rw [h2.cell]; exact ByB p i hlt
      have bw := A51 p 80 i
      have HR := hr.succ hlt; clear hr
      generalize (wl p 80).getD i 0 = x at *
      obtain ⟨va, vb, vc, vd, ve⟩ := v
      obtain ⟨ba, bb, bc, bd, be⟩ := hv
      simp only at ba bb bc bd be c0 c1 c2 c3 c4
      have bf : sff i vb vc vd < 4294967296 := BxR i bb bc bd
      go_upto_block 6 with (fail)
      go_cut [11, 12] (fun f k wc => f = .int .u32 (sff i vb vc vd : Nat) ∧ k = .int .u32 (skk i : Nat) ∧ wc = wr)
      case first =>
       rcases (show i < 20 ∨ (20 ≤ i ∧ i < 40) ∨ (40 ≤ i ∧ i < 60) ∨ 60 ≤ i from by omega) with hq | ⟨hq, hq2⟩ | ⟨hq, hq2⟩ | hq
       ·go_wp2
        go_meet
        case rel => exact ⟨by rw [BCJ hq, BoV _ _ _ bb bc bd], by rw [BCE hq]; rfl, rfl⟩
       ·go_wp2
        go_meet
        case rel => exact ⟨by rw [BC0 hq hq2, Bj2 _ _ _ bb bc bd], by rw [BC6 hq hq2]; rfl, rfl⟩
       ·go_wp2
        go_meet
        case rel => exact ⟨by rw [BCT hq hq2, Bop _ _ _ bb bc bd], by rw [BCz hq hq2]; rfl, rfl⟩
       ·go_wp2
        go_meet
        case rel => exact ⟨by rw [BCu hq, Bj2 _ _ _ bb bc bd], by rw [BCR hq]; rfl, rfl⟩
      case rest =>
       obtain ⟨rfl, rfl, rfl⟩ := hcut
       have hrt : A8T i ⟨va, vb, vc, vd, ve⟩ x = ((((rot va 5 + sff i vb vc vd) % 4294967296 + ve) % 4294967296 + skk i) % 4294967296 + x) % 4294967296 := rfl
       have HT := Lib.hid hrt; clear hrt
       have br := Bn6 5 ba
       have bk : skk i < 4294967296 := by unfold skk; split <;> (try split) <;> (try split) <;> omega
       generalize sff i vb vc vd = F at *
       generalize skk i = KK at *
       go_wp2
       go_quiet ((go_at_call 42; exact Calls.quiet_of (turn _ _ _ ba (.inr (.inl rfl)))))
       go_wp2_with fail
       (with_reducible refine (turn _ _ _ bb (.inr (.inr rfl))).mono ?_)
       rintro e w' ⟨rfl, n2, rfl⟩
       go_wp2
       go_roundw
       case rel =>
        go_light
        have n0 : w.heap.size ≠ wo.heap.size := by omega
        have n1 : w.heap.size + 1 ≠ wo.heap.size := by omega
        have n2' : w.heap.size + 1 + 1 ≠ wo.heap.size := by omega
        refine ⟨i + 1, rnd i ⟨va, vb, vc, vd, ve⟩ x, by omega, by go_num, BiT i x ⟨ba, bb, bc, bd, be⟩, ?_, HR, ?_, ?_, ?_, ?_⟩
        ·have h5 := (((((hva.drewN nq).set 4 (.int .u32 vd)).set 3 (.int .u32 vc)).drewN n2).set 2 (.int .u32 (rot vb 30 : Nat))).set 1 (.int .u32 va) |>.set 0 (.int .u32 (A8T i ⟨va, vb, vc, vd, ve⟩ x : Nat))
         have e2 : ((A8T i ⟨va, vb, vc, vd, ve⟩ x : Nat) : Int) = (((rot va 5 : Nat) : Int) + F + ve + KK + x) % 4294967296 := by rw [HT.out]; omega
         rw [← e2]
         exact h5
        ·exact ((((((h2.drewN nq).other _ _ n2').other _ _ n2').drewN n2).other _ _ n2').other _ _ n2').other _ _ n2'
        ·exact ((((((h0.drewN nq).other _ _ n0).other _ _ n0).drewN n2).other _ _ n0).other _ _ n0).other _ _ n0
        ·exact ((((((h1.drewN nq).other _ _ n1).other _ _ n1).drewN n2).other _ _ n1).other _ _ n1).other _ _ n1
        ·have hle : w.heap.size ≤ wo.heap.size := by omega
         exact Below.setCell (Below.setCell (Below.setCell (Below.drewN' n2 (Below.setCell (Below.setCell (hk0.drewN nq) (p := ⟨wo.heap.size, 4, none⟩) hle _) (p := ⟨wo.heap.size, 3, none⟩) hle _)) (p := ⟨wo.heap.size, 2, none⟩) hle _) (p := ⟨wo.heap.size, 1, none⟩) hle _) (p := ⟨wo.heap.size, 0, none⟩) hle _
       case measure => simp [intOf]; omega
     ·have HK := Lib.hid (show i = 80 by omega)
      rw [HK.out] at hr
      have hva' := hva
      rw [hr.last] at hva'
      clear hva hr
      go_wp2
      go_meet
      case rel => exact ⟨hva', h0, h1, hk0⟩
   case rest =>
    clear h0 h1 h2 hk0 hv0
    obtain ⟨hva, h0, h1, hk0⟩ := hcut
    have hV : (Bld 0 h (wl p 80)).ok := Bol _ _ _ hh
    have hB : blk h p = BvU h (Bld 0 h (wl p 80)) := rfl
    have HB := Lib.hid hB; clear hB
    generalize Bld 0 h (wl p 80) = V at *
    go_wp2
    go_loopw [14] (fun i wr => ∃ k : Nat, k ≤ 5 ∧ i = .int .i64 k ∧ Arr wr wo.heap.size 79 (A6o V.list) ∧ Arr wr w.heap.size 79 (A6o (Bt8 h V k)) ∧ Arr wr (w.heap.size + 1) 79 (BfK 5) ∧ A3o w wr) (fun i _ => 5 - (intOf i).toNat)
    case atStart => exact ⟨0, by omega, rfl, hva, h0, h1, hk0⟩
    case round =>
     clear hva h0 h1 hk0
     obtain ⟨k, hk, rfl, hva, h0, h1, hk0⟩ := hrel
     by_cases hlt : k < 5
     ·have cv : wr.cell? ⟨wo.heap.size, k, none⟩ = some (.int .u32 ((V.list.getD k 0 : Nat) : Int)) := by rw [hva.cell]; exact Be3 V k hlt
      have ch : wr.cell? ⟨w.heap.size, k, none⟩ = some (.int .u32 ((h.list.getD k 0 : Nat) : Int)) := by rw [h0.cell]; exact BmP h V k hlt
      have fh := h0.frozen k
      have b1 := hV.get k
      have b2 := hh.get k
      have hs := BmH h V k hlt
      have HS := Lib.hid hs; clear hs
      generalize V.list.getD k 0 = x at *
      generalize h.list.getD k 0 = y at *
      have hki : (k : Int) < 5 := by omega
      go_wp2
      go_still_tail 9, (by kernel_rfl)
      go_wp2
      go_roundw
      case rel =>
       go_light
       refine ⟨k + 1, by omega, by go_num, hva.other _ _ (by simp; omega), ?_, h1.other _ _ (by simp), Below.drew (Below.setCell hk0 (Nat.le_refl _) _)⟩
       have h5 := h0.set k (.int .u32 (((y + x) % 4294967296 : Nat) : Int))
       rw [HS.out, show (((y + x) % 4294967296 : Nat) : Int) = ((y : Int) + x) % 4294967296 from by omega] at h5
       exact h5
      case measure => simp [intOf]; omega
     ·have HK := Lib.hid (show k = 5 by omega)
      rw [HK.out, BkP] at h0
      obtain ⟨c0, c1, c2, c3, c4⟩ := h0.five
      obtain ⟨d0, d1, d2, d3, d4⟩ := h1.five
      have f0 := h1.frozen 0
      have f1 := h1.frozen 1
      have f2 := h1.frozen 2
      have f3 := h1.frozen 3
      have f4 := h1.frozen 4
      generalize BvU h V = R at *
      go_wp2
      rw [HB.out]
      have hle : w.heap.size ≤ w.heap.size + 1 := by omega
      refine bodyPost_ret (v := .agg #[.int .u32 R.a, .int .u32 R.b, .int .u32 R.c, .int .u32 R.d, .int .u32 R.e]) (by simp [results, Tryz.results31, go_sem, d0, d1, d2, d3, d4]) rfl ⟨rfl, ?_⟩
      exact Below.setCell (Below.setCell (Below.setCell (Below.setCell (Below.setCell hk0 (p := ⟨w.heap.size + 1, 0, none⟩) hle _) (p := ⟨w.heap.size + 1, 1, none⟩) hle _) (p := ⟨w.heap.size + 1, 2, none⟩) hle _) (p := ⟨w.heap.size + 1, 3, none⟩) hle _) (p := ⟨w.heap.size + 1, 4, none⟩) hle _
end Go.Proofs.YtmlompedpahkjaaGreatDoor.Kit


namespace Go.Proofs.YtmlompedpahkjaaGreatDoor.Kit
open Go.RowKit
set_option linter.unusedVariables false

theorem BtL (l : List UInt8) (n : Nat) : (bv (l ++ [128])) = bv l ++ [.int .u8 128] := by simp [bv]

set_option maxRecDepth 100000 in
set_option maxHeartbeats 4000000 in
theorem Bxk (a : Option Addr) (cap : Nat) (l : List UInt8) (w : World) (hb : Bs w a l) (hbl : l.length ≤ 1000000000) :
  Calls Tryz.prog 20 #[.slice a l.length cap] w fun e w' => e = .returned (.agg (bv (sha l)).toArray) ∧ A3o w w' := by
 go_enter Tryz.func20, Tryz.ntmps20
 go_upto_region 2 with (fail)
 have hI0 : Arr (w.alloc (.cells #[.int .u8 0, .int .u8 0, .int .u8 0, .int .u8 0, .int .u8 0, .int .u8 0, .int .u8 0, .int .u8 0, .int .u8 0, .int .u8 0, .int .u8 0, .int .u8 0, .int .u8 0, .int .u8 0, .int .u8 0, .int .u8 0, .int .u8 0, .int .u8 0, .int .u8 0, .int .u8 0] 31)) w.heap.size 31 (z8 20) := Arr.new _ _ _
 have hk0 := (A3o.refl w).alloc (.cells #[.int .u8 0, .int .u8 0, .int .u8 0, .int .u8 0, .int .u8 0, .int .u8 0, .int .u8 0, .int .u8 0, .int .u8 0, .int .u8 0, .int .u8 0, .int .u8 0, .int .u8 0, .int .u8 0, .int .u8 0, .int .u8 0, .int .u8 0, .int .u8 0, .int .u8 0, .int .u8 0] 31)
 have hsrc : Src Tryz.prog 1 23 (.slice a l.length cap) l.length (bv l) _ := (hb.keep hk0).srcOf Tryz.underlying23 cap (fun _ => rfl)
 go_cut [3] (fun v wc => Seg wc w.heap.size 5 1 v l.length (bv l) ∧ Arr wc w.heap.size 31 (z8 20) ∧ A3o w wc)
 case first =>
  go_wp2_with (at_builtin; go_must (refine A4u _ rfl (.tmp 11) (.tmp 12) 23 23 rfl w.heap.size 5 (.int .u8 0) 1 1 Tryz.underlying23 Tryz.infoU8 rfl _ 0 [] rfl (Seg.nil _ _ _ _) _ _ _ rfl hsrc ?c1 ?c2 ?c3 ?_))
  case c1 => unfold maxLen; omega
  case c2 => omega
  case c3 => exact Below.size hk0
  intro v1 w1 hS1 hg1 ho1
  try simp only [Nat.zero_add, List.nil_append] at hS1
  have hI1 := hI0.keep (A44 hg1)
  have hk1 := A3o.trans hk0 (A44 hg1)
  clear hI0 hk0 hsrc
  go_wp2
  go_meet
  case rel => exact ⟨hS1, hI1, hk1⟩
 case rest =>
  clear hI0 hk0 hsrc
  obtain ⟨hS, hI, hk⟩ := hcut
  obtain ⟨wa, rfl⟩ : ∃ wa : World, wa = wc := ⟨_, rfl⟩
  go_upto_region 3 with (fail)
  go_cut [3] (fun v wc => Seg wc w.heap.size 5 1 v (l ++ [128]).length (bv (l ++ [128])) ∧ Arr wc w.heap.size 31 (z8 20) ∧ A3o w wc)
  case first =>
   have hne := hS.ne_arr hI (by decide)
   go_wp2_with (at_builtin; go_must (refine A4u _ rfl (.tmp 14) (.tmp 15) 23 23 rfl w.heap.size 5 (.int .u8 0) 1 1 Tryz.underlying23 Tryz.infoU8 rfl _ _ _ rfl (hS.alloc _) _ 1 [_] rfl (Bjn Tryz.underlying23 _ _ _ rfl) ?c1 ?c2 ?c3 ?_))
   case c1 => unfold maxLen; omega
   case c2 => omega
   case c3 => exact Nat.le_trans (Below.size hk) (by simp)
   intro v1 w1 hS1 hg1 ho1
   have hI1 := (hI.alloc (.cells #[.int .u8 128] 5)).grown hg1 (fun e => hne e.symm)
   have hk1 : A3o w w1 := Below.grown (hk.alloc _) hg1 (Nat.le_trans (Below.size hk) (by simp)) (fun j hj => (hS.lt j hj).1)
   go_wp2
   go_meet
   case rel => exact ⟨by rw [BtL l 0, List.length_append]; exact hS1, hI1, hk1⟩
  case rest =>
   clear hS hI hk
   obtain ⟨hS, hI, hk⟩ := hcut
   obtain ⟨wb, rfl⟩ : ∃ wb : World, wb = wc := ⟨_, rfl⟩
   obtain ⟨z, hz⟩ : ∃ z : Nat, z = (119 - l.length % 64) % 64 := ⟨_, rfl⟩
   have HZ := Lib.hid hz
   have hz64 : z < 64 := by omega
   go_upto_block 0 with (fail)
   go_cut [3] (fun v wc => Seg wc w.heap.size 5 1 v (l ++ 128 :: List.replicate z 0).length (bv (l ++ 128 :: List.replicate z 0)) ∧ Arr wc w.heap.size 31 (z8 20) ∧ A3o w wc)
   case first =>
    go_wp2
    go_loopg [3] z (fun gn v wr => ∃ (j : Nat) (m : List UInt8), j + gn = z ∧ Hid (m = l ++ 128 :: List.replicate j 0) ∧ Seg wr w.heap.size 5 1 v m.length (bv m) ∧ Arr wr w.heap.size 31 (z8 20) ∧ A3o w wr)
    case atStart => exact ⟨0, l ++ [128], by omega, rfl, hS, hI, hk⟩
    case round =>
     clear hS hI hk
     obtain ⟨j, m, hj, hm, hS, hI, hk⟩ := hrel
     have hml : m.length = l.length + 1 + j := by rw [hm.out]; simp; omega
     obtain ⟨x, cap1, rfl, hn1, hc1, hx1⟩ := hS.form
     by_cases hlt : j < z
     ·have ht := BrD hz hlt hml
      have hml2 : m.length ≤ 1000000100 := by omega
      have HM := Lib.hid hml; clear hml
      have hne := hS.ne_arr hI (by decide)
      clear hz
      go_wp2_with (at_builtin; go_must (refine A4u _ rfl (.tmp 21) (.tmp 22) 23 23 rfl w.heap.size 5 (.int .u8 0) 1 1 Tryz.underlying23 Tryz.infoU8 rfl _ _ _ rfl (hS.alloc _) _ 1 [_] rfl (Bjn Tryz.underlying23 _ _ _ rfl) ?c1 ?c2 ?c3 ?_))
      case c1 => unfold maxLen; omega
      case c2 => omega
      case c3 => exact Nat.le_trans (Below.size hk) (by simp)
      intro v1 w1 hS1 hg1 ho1
      have hI1 := (hI.alloc (.cells #[.int .u8 0] 5)).grown hg1 (fun e => hne e.symm)
      have hk1 : A3o w w1 := Below.grown (hk.alloc _) hg1 (Nat.le_trans (Below.size hk) (by simp)) (fun j hj => (hS.lt j hj).1)
      go_wp2
      go_roundg (gk - 1)
      case measure => omega
      case rel =>
       go_light
       refine ⟨j + 1, m ++ [0], by omega, ?_, ?_, hI1, hk1⟩
       ·show m ++ [0] = _
        rw [hm.out]; simp [List.replicate_succ']
       ·rw [List.length_append, ← Bl8 m 0 (z := 0) rfl]; exact hS1
     ·have hjz : j = z := by omega
      have ht := Brp hz hjz hml
      have HM := Lib.hid (And.intro hml hjz); clear hml hjz hz
      go_wp2
      go_meet
      case rel =>
       go_light
       have e := hm.out
       rw [HM.out.2] at e
       rw [← e]; exact ⟨hS, hI, hk⟩
   case rest =>
    clear hS hI hk
    obtain ⟨hS, hI, hk⟩ := hcut
    obtain ⟨wb, rfl⟩ : ∃ wb : World, wb = wc := ⟨_, rfl⟩
    obtain ⟨nn, hnn⟩ : ∃ nn : Nat, nn = l.length * 8 % 18446744073709551616 := ⟨_, rfl⟩
    have hnl : nn < 18446744073709551616 := by omega
    have hn8 : nn = l.length * 8 := by omega
    obtain ⟨P, hP⟩ : ∃ P, P = l ++ BfJ l.length := ⟨_, rfl⟩
    have hPe : P = (l ++ 128 :: List.replicate z 0) ++ be8 nn := by rw [hP, BfJ, ← hz, ← hnn]; simp
    generalize hQ : l ++ 128 :: List.replicate z 0 = Q0 at *
    have hQl : Q0.length ≤ 1000000100 := by rw [← hQ]; simp; omega
    have HP := Lib.hid (And.intro hP hPe)
    have hPl : P.length ≤ 1000000200 := by rw [hP, List.length_append]; have := Bsz l.length; omega
    have hPq : ∃ q, P.length = 64 * q := by rw [hP]; exact Bun l
    have HN := Lib.hid (And.intro hnn (And.intro hz hQ))
    clear hP hPe hnn hz hQ
    have hn4 : IntKind.u64.wrap ((l.length : Int) * 8) = (nn : Int) := by rw [IntKind.wrap_u64]; omega
    have hn4' : (l.length : Int) * 8 = (nn : Int) := by omega
    go_upto_region 7 with (fail)
    have HN4 := Lib.hid (And.intro hn4 (And.intro hn4' hn8)); clear hn4 hn4' hn8
    go_upto_block 2 with (fail)
    rw [HN4.out.2.1]
    go_cut [3] (fun v wc => Seg wc w.heap.size 5 1 v P.length (bv P) ∧ Arr wc w.heap.size 31 (z8 20) ∧ A3o w wc)
    case first =>
     go_wp2
     go_loopg [3, 5] 8 (fun gn v iv wr => ∃ (m : List UInt8) (j : Nat), j ≤ 8 ∧ j ≤ gn ∧ (iv = .int .i64 ((j : Int) - 1)) ∧ Hid (m = Q0 ++ (be8 nn).take (8 - j)) ∧ Seg wr w.heap.size 5 1 v m.length (bv m) ∧ Arr wr w.heap.size 31 (z8 20) ∧ A3o w wr)
     case atStart => exact ⟨Q0, 8, by omega, by omega, rfl, by simp [Hid], hS, hI, hk⟩
     case round =>
      clear hS hI hk
      obtain ⟨m, j, hj8, hjg, rfl, hm, hS, hI, hk⟩ := hrel
      have hml : m.length ≤ 1000000150 := by rw [hm.out]; simp [A6S]; omega
      cases j with
      | succ q =>
       rw [show ((q + 1 : Nat) : Int) - 1 = (q : Int) from by omega]
       have hne := hS.ne_arr hI (by decide)
       have e8 := BcU (nn / 2 ^ (8 * q))
       have hb8 := BtD nn q (by omega)
       generalize hy : UInt8.ofNat (nn / 2 ^ (8 * q) % 256) = y at *
       have HY := Lib.hid (And.intro e8 hb8)
       clear e8 hb8 hy
       go_wp2_with (at_builtin; go_must (refine A4u _ rfl (.tmp 32) (.tmp 38) 23 23 rfl w.heap.size 5 (.int .u8 0) 1 1 Tryz.underlying23 Tryz.infoU8 rfl _ _ _ rfl (hS.alloc _) _ 1 [_] rfl (Bjn Tryz.underlying23 _ _ _ rfl) ?c1 ?c2 ?c3 ?_))
       case c1 => unfold maxLen; omega
       case c2 => omega
       case c3 => exact Nat.le_trans (Below.size hk) (by simp)
       intro v1 w1 hS1 hg1 ho1
       have hI1 := (hI.alloc (.cells #[.int .u8 ((nn : Int) / 2 ^ (8 * q) % 256)] 5)).grown hg1 (fun e => hne e.symm)
       have hk1 : A3o w w1 := Below.grown (hk.alloc _) hg1 (Nat.le_trans (Below.size hk) (by simp)) (fun j hj => (hS.lt j hj).1)
       go_wp2
       go_roundg (gk - 1)
       case measure => omega
       case rel =>
        go_light
        refine ⟨m ++ [y], q, by omega, by omega, rfl, ?_, ?_, hI1, hk1⟩
        ·show m ++ [y] = _
         have e := hm.out
         rw [show 8 - (q + 1) = 7 - q from by omega] at e
         rw [HY.out.2, ← List.append_assoc, ← e]
        ·rw [List.length_append]
         have h6 := hS1
         rw [Bl8 m y (by rw [HY.out.1]; rfl)] at h6
         exact h6
      | zero =>
       rw [show ((0 : Nat) : Int) - 1 = -1 from rfl]
       go_wp2
       go_meet
       case rel =>
        go_light
        have e := hm.out
        rw [show 8 - 0 = 8 from rfl, List.take_of_length_le (by rw [A6S]; omega), ← HP.out.2] at e
        rw [← e]; exact ⟨hS, hI, hk⟩
    case rest =>
     clear hS hI hk HN4
     obtain ⟨hS, hI, hk⟩ := hcut
     obtain ⟨x3, cap3, rfl, hn3, hc3, hx3⟩ := hS.form
     obtain ⟨wd, rfl⟩ : ∃ wd : World, wd = wc := ⟨_, rfl⟩
     go_upto_block 4 with (fail)
     have hh0 : Arr (wd.alloc (.cells #[.int .u32 1732584193, .int .u32 4023233417, .int .u32 2562383102, .int .u32 271733878, .int .u32 3285377520] 79)) wd.heap.size 79 (A6o H0.list) := Arr.new _ _ _
     have hkd : A3o wd (wd.alloc (.cells #[.int .u32 1732584193, .int .u32 4023233417, .int .u32 2562383102, .int .u32 271733878, .int .u32 3285377520] 79)) := (A3o.refl wd).alloc _
     have hwd : w.heap.size ≤ wd.heap.size := Below.size hk
     go_cut [] (fun wc => Arr wc wd.heap.size 79 (A6o (A33 H0 P).1.list) ∧ A3o wd wc)
     case first =>
      go_wp2
      go_loopg [7] (P.length) (fun gn iv wr => ∃ (q : Nat) (h : V5), P.length ≤ 64 * q + gn ∧ 64 * q ≤ P.length ∧ iv = .int .i64 ((64 * q : Nat) : Int) ∧ Arr wr wd.heap.size 79 (A6o h.list) ∧ Bpj P h (P.drop (64 * q)) ∧ A3o wd wr)
      case atStart => exact ⟨0, H0, by omega, by omega, rfl, hh0, ⟨rfl, BqM⟩, hkd⟩
      case round =>
       clear hh0 hkd
       obtain ⟨q, h, hg, hq, rfl, hh, hB, hkd⟩ := hrel
       obtain ⟨atq, hat⟩ : ∃ n : Nat, n = 64 * q := ⟨_, rfl⟩
       rw [← hat]
       rw [← hat] at hq hg hB
       obtain ⟨QQ, hQQ⟩ := hPq
       have hlast : atq < P.length → atq + 64 ≤ P.length := by intro h; omega
       have hfin : ¬ atq < P.length → atq = P.length := by intro h; omega
       have HA := Lib.hid (And.intro hat hQQ)
       clear hat hQQ
       obtain ⟨c0, c1, c2, c3, c4⟩ := hh.five
       have f0 := hh.frozen 0
       have f1 := hh.frozen 1
       have f2 := hh.frozen 2
       have f3 := hh.frozen 3
       have f4 := hh.frozen 4
       by_cases hlt : atq < P.length
       ·have h64 := hlast hlt
        clear hlast hfin
        obtain ⟨bb, off, rfl, hbb, hbw⟩ := hx3 (by omega)
        have hbP : Bs wr (some ⟨bb, off, none⟩) P := hS.bytes.keep hkd
        have hbt := (hbP.drop atq).take 64
        have s1 : IntKind.i64.wrap ((atq : Int) + 64) = (atq : Int) + 64 := IntWalk.i64_in _ (by omega)
        have t1 : ((atq : Int) + 64).toNat = atq + 64 := by omega
        have g1 : (atq : Int) + 64 ≤ (P.length : Int) := by omega
        have g2 : (0 : Int) ≤ (atq : Int) + 64 := by omega
        have g3 : (atq : Int) + 64 ≤ (cap3 : Int) := by omega
        have g4 : ¬ cap3 = atq := by omega
        go_upto_region 15 with (fail)
        go_still_tail 6, (by kernel_rfl)
        have hB2 : Bpj P (blk h ((P.drop atq).take 64)) (P.drop (atq + 64)) := ⟨by rw [← hB.eq, A8b _ (P.drop atq) (by rw [List.length_drop]; omega), List.drop_drop], BlQ _ _⟩
        have hlt64 : ((P.drop atq).take 64).length = 64 := by rw [List.length_take, List.length_drop]; omega
        have HL := Lib.hid hlt64; clear hlt64
        generalize hHH : blk h ((P.drop atq).take 64) = H2 at *
        have HH := Lib.hid hHH; clear hHH
        go_wp2_with fail
        (with_reducible refine (BtQ h _ _ ((P.drop atq).take 64) _ hB.ok (hbt.keep (A3o.refl wr).drew) HL.out).mono ?_)
        rw [HH.out]
        rintro e w5 ⟨rfl, hk5⟩
        have hh5 : Arr w5 wd.heap.size 79 (A6o h.list) := Arr.keep hh.drew hk5
        have hkd5 : A3o wd w5 := A3o.trans hkd.drew hk5
        clear c0 c1 c2 c3 c4 f0 f1 f2 f3 f4
        obtain ⟨c0, c1, c2, c3, c4⟩ := hh5.five
        have f0 := hh5.frozen 0
        have f1 := hh5.frozen 1
        have f2 := hh5.frozen 2
        have f3 := hh5.frozen 3
        have f4 := hh5.frozen 4
        go_wp2
        go_roundg (P.length - (atq + 64))
        case measure => omega
        case rel =>
         go_light
         refine ⟨q + 1, H2, ?_, ?_, ?_, ?_, ?_, ?_⟩
         ·have := HA.out.1; omega
         ·have := HA.out.1; omega
         ·have e : 64 * (q + 1) = atq + 64 := by have := HA.out.1; omega
          rw [e]; go_num
         ·exact ((((hh5.set 0 _).set 1 _).set 2 _).set 3 _).set 4 _
         ·have e : 64 * (q + 1) = atq + 64 := by have := HA.out.1; omega
          rw [e]; exact hB2
         ·exact Below.setCell (Below.setCell (Below.setCell (Below.setCell (Below.setCell hkd5 (p := ⟨wd.heap.size, 0, none⟩) (Nat.le_refl _) _) (p := ⟨wd.heap.size, 1, none⟩) (Nat.le_refl _) _) (p := ⟨wd.heap.size, 2, none⟩) (Nat.le_refl _) _) (p := ⟨wd.heap.size, 3, none⟩) (Nat.le_refl _) _) (p := ⟨wd.heap.size, 4, none⟩) (Nat.le_refl _) _
       ·have he := hfin hlt
        have hE := hB.eq
        rw [List.drop_eq_nil_of_le (by omega), A5O _ _ (by simp)] at hE
        have HE := Lib.hid hE
        clear hlast hfin hE he
        go_wp2
        go_meet
        case rel =>
         go_light
         rw [← HE.out]; exact ⟨hh, hkd⟩
     case rest =>
      clear hh0 hkd
      obtain ⟨hh, hkd⟩ := hcut
      have hI2 := hI.keep hkd
      have hk2 := A3o.trans hk hkd
      have hV : (A33 H0 P).1.ok := Bhb _ _ BqM
      have hsha : sha l = A4M (A33 H0 P).1 := by rw [HP.out.1]; rfl
      have HS := Lib.hid hsha; clear hsha
      generalize (A33 H0 P).1 = V at *
      clear hI hk hS hkd hx3 hPq
      obtain ⟨we, rfl⟩ : ∃ we : World, we = wc := ⟨_, rfl⟩
      go_upto_block 6 with (fail)
      have ho0 : Arr (we.alloc (.cells #[.int .u8 0, .int .u8 0, .int .u8 0, .int .u8 0, .int .u8 0, .int .u8 0, .int .u8 0, .int .u8 0, .int .u8 0, .int .u8 0, .int .u8 0, .int .u8 0, .int .u8 0, .int .u8 0, .int .u8 0, .int .u8 0, .int .u8 0, .int .u8 0, .int .u8 0, .int .u8 0] 31)) we.heap.size 31 (bv ((A4M V).take (4 * 0)) ++ z8 (20 - 4 * 0)) := Arr.new _ _ _
      have hh1 := hh.alloc (.cells #[.int .u8 0, .int .u8 0, .int .u8 0, .int .u8 0, .int .u8 0, .int .u8 0, .int .u8 0, .int .u8 0, .int .u8 0, .int .u8 0, .int .u8 0, .int .u8 0, .int .u8 0, .int .u8 0, .int .u8 0, .int .u8 0, .int .u8 0, .int .u8 0, .int .u8 0, .int .u8 0] 31)
      have hI1 := hI2.alloc (.cells #[.int .u8 0, .int .u8 0, .int .u8 0, .int .u8 0, .int .u8 0, .int .u8 0, .int .u8 0, .int .u8 0, .int .u8 0, .int .u8 0, .int .u8 0, .int .u8 0, .int .u8 0, .int .u8 0, .int .u8 0, .int .u8 0, .int .u8 0, .int .u8 0, .int .u8 0, .int .u8 0] 31)
      have hk1 := hk2.alloc (.cells #[.int .u8 0, .int .u8 0, .int .u8 0, .int .u8 0, .int .u8 0, .int .u8 0, .int .u8 0, .int .u8 0, .int .u8 0, .int .u8 0, .int .u8 0, .int .u8 0, .int .u8 0, .int .u8 0, .int .u8 0, .int .u8 0, .int .u8 0, .int .u8 0, .int .u8 0, .int .u8 0] 31)
      have l4 := hh.lt
      have l5 := hI2.lt
      go_cut [] (fun wr => Arr wr we.heap.size 31 (bv (A4M V)) ∧ Arr wr w.heap.size 31 (z8 20) ∧ A3o w wr)
      case first =>
       go_wp2
       go_loopg [9, 10] 5 (fun gn iv _ wr => ∃ i : Nat, i ≤ 5 ∧ 5 ≤ i + gn ∧ iv = .int .i64 i ∧ Arr wr we.heap.size 31 (bv ((A4M V).take (4 * i)) ++ z8 (20 - 4 * i)) ∧ Arr wr wd.heap.size 79 (A6o V.list) ∧ Arr wr w.heap.size 31 (z8 20) ∧ A3o w wr)
       case atStart => exact ⟨0, by omega, by omega, rfl, ho0, hh1, hI1, hk1⟩
       case round =>
        clear ho0 hh1 hI1 hk1 hh hI2 hk2
        obtain ⟨i, hi, hig, rfl, ho, hh, hI, hk⟩ := hrel
        by_cases hlt : i < 5
        ·have hmi : (i : Int) < 5 := by omega
         obtain ⟨gi, rfl⟩ : ∃ gi : Nat, gi = gk := ⟨_, rfl⟩
         go_wp2
         go_loopg [10] 4 (fun gn kv wr => ∃ k : Nat, k ≤ 4 ∧ 4 ≤ k + gn ∧ kv = .int .i64 k ∧ Arr wr we.heap.size 31 (bv ((A4M V).take (4 * i + k)) ++ z8 (20 - (4 * i + k))) ∧ Arr wr wd.heap.size 79 (A6o V.list) ∧ Arr wr w.heap.size 31 (z8 20) ∧ A3o w wr)
         case atStart => exact ⟨0, by omega, by omega, rfl, ho, hh, hI, hk⟩
         case round =>
          clear ho hh hI hk
          obtain ⟨k, hk4, hkg, rfl, ho, hh, hI, hk⟩ := hrel
          by_cases hlk : k < 4
          ·have hmk : (k : Int) < 4 := by omega
           have ci : wr.cell? ⟨we.heap.size, 4 * i + k, none⟩ = some (.int .u8 0) := by rw [ho.cell]; exact BmN V _ (by omega)
           have fi := ho.frozen (4 * i + k)
           have ch : wr.cell? ⟨wd.heap.size, i, none⟩ = some (.int .u32 ((V.list.getD i 0 : Nat) : Int)) := by rw [hh.cell]; exact Be3 V _ hlt
           have hbv := hV.get i
           have e8 := BcU (V.list.getD i 0 / 2 ^ (24 - 8 * k))
           have hb8 := Bm7 V i k hlt hlk
           generalize hy : UInt8.ofNat (V.list.getD i 0 / 2 ^ (24 - 8 * k) % 256) = y at *
           have HY := Lib.hid (And.intro e8 hb8)
           clear e8 hb8 hy
           generalize V.list.getD i 0 = q at *
           go_wp2
           go_roundg (gk - 1)
           case measure => omega
           case rel =>
            go_light
            have n1 : wd.heap.size ≠ we.heap.size := by omega
            have n2 : w.heap.size ≠ we.heap.size := by omega
            refine ⟨k + 1, by omega, by omega, by go_num, ?_, hh.other _ _ n1, hI.other _ _ n2, Below.setCell hk (p := ⟨we.heap.size, 4 * i + k, none⟩) (by show w.heap.size ≤ we.heap.size; omega) _⟩
            have h5 := ho.set (4 * i + k) (.int .u8 ((q : Int) / 2 ^ (24 - 8 * k) % 256))
            rw [Bqx V (4 * i + k) (by omega) HY.out.2 (by rw [HY.out.1]; rfl)] at h5
            exact h5
          ·have hk4e : k = 4 := by omega
           have HK := Lib.hid hk4e; clear hk4e
           go_wp2
           go_roundg (gi - 1)
           case measure => omega
           case rel =>
            go_light
            refine ⟨i + 1, by omega, by omega, by go_num, ?_, hh, hI, hk⟩
            have h5 := ho
            rw [HK.out, show 4 * i + 4 = 4 * (i + 1) from by omega] at h5
            exact h5
        ·have HI := Lib.hid (show i = 5 by omega)
         rw [HI.out] at ho
         go_wp2
         go_meet
         case rel =>
          go_light
          refine ⟨?_, hI, hk⟩
          have e : bv ((A4M V).take (4 * 5)) ++ z8 (20 - 4 * 5) = bv (A4M V) := by
           rw [List.take_of_length_le (by rw [A4f]; omega)]; simp [z8]
          rw [← e]; exact ho
      case rest =>
       clear ho0 hh1 hI1 hk1 hh hI2 hk2 l4 l5
       obtain ⟨hid, hI, hk⟩ := hcut
       have hl : (bv (A4M V)).length = (z8 20).length := by rw [A6e, A4f]; rfl
       have hsa := hI.setAll hl
       have hks := A3o.setCells (Nat.le_refl _) (bv (A4M V)) 0 _ hk
       have hth := hI.there 20 (by simp [z8])
       unfold Arr at hid hsa
       have z1 : (Tryz.prog.info? 31).map (·.size) = some (bv (A4M V)).toArray.size := by rw [List.size_toArray, A6e, A4f]; kernel_rfl
       have z2 : wc.there w.heap.size 0 (bv (A4M V)).toArray.size := by rw [show (bv (A4M V)).toArray.size = 20 from by simp [A4f]]; exact hth
       have z3 := all_oneCell_toArray (Be4 (A4M V))
       have Z1 := Lib.hid z1
       clear z1
       clear hth
       go_upto_region 24 with (fail)
       go_wp2_with (first | (with_reducible refine wpList_load_row rfl 31 (.tmp 8) rfl _ rfl 31 (bv (A4M V)).toArray (0, 0) _ hid Tryz.underlying31 rfl Z1.out ?_) | (with_reducible refine wpList_store_mid rfl 31 (.tmp 2) (.tmp 75) rfl w.heap.size 0 (bv (A4M V)).toArray rfl rfl z2 Z1.out z3 ?_))
       refine bodyPost_ret (results_cell_row rfl _ _ w.heap.size 31 (bv (A4M V)).toArray (0, 0) _ rfl hsa Tryz.underlying31 rfl Z1.out) rfl ⟨by rw [HS.out], hks⟩
end Go.Proofs.YtmlompedpahkjaaGreatDoor.Kit


namespace Go.Proofs.YtmlompedpahkjaaGreatDoor
open Go.RowKit Kit
variable [A4e]
set_option linter.unusedSectionVars false
set_option linter.unusedVariables false

/-- Bytes in, bytes out, and nothing that was there is changed. -/
theorem A4p.of_bytes {P : Program} {f : FuncId} {l out : List UInt8} {n : Nat} (hn : out.length = n)
  (h : ∀ (a : Option Addr) (cap : Nat) (w : World), Bs w a l → Calls P f #[.slice a l.length cap] w fun e w' => e = .returned (.agg (bv out).toArray) ∧ A3o w w') :
  A4p P f [slB l] (fun x => x = .arr n 1 (out.map by8)) := by
 intro β F w vs hF hv
 obtain ⟨v, us, rfl, h1, hv⟩ := A3V.cons.1 hv
 rw [A3V.nil] at hv; subst hv
 have fin : ∀ e w', (e = Ending.returned (.agg (bv out).toArray) ∧ A3o w w') → ∃ v x F', e = .returned v ∧ x = .arr n 1 (out.map by8) ∧ Rep ⟨β, [], F'⟩ w' x v ∧ Baf F w F' w' := by
  rintro e w' ⟨rfl, hk⟩
  refine ⟨_, _, F, rfl, rfl, Rep.of_cells (us := bv out) ?_, ⟨hk.os, hk.tape, hk.output, hk.size, fun b hb => hk.block b hb, fun _ h => h, fun _ _ h => h, fun b hb => Nat.lt_of_lt_of_le (hF.1 b hb) hk.size⟩⟩
  rw [A3i]
  exact ⟨by simpa using hn, fun y hy => by obtain ⟨b, _, rfl⟩ := List.mem_map.1 hy; rfl, A6R out⟩
 have hr0 : Rep ⟨β, [], F⟩ w (slB l) v := Or.inl h1
 have hr := hr0.sl
 obtain ⟨hw, hr⟩ := hr
 rcases hr with ⟨he, ad, cap, rfl, _⟩ | ⟨b, off, cap, us, rfl, h3, h4, h5, h6, h7⟩
 ·have hl : l = [] := by simpa using he
  subst hl
  exact (h ad cap w (Bs.nil w ad)).mono fun e w' h => fin e w' h
 ·have hb := A7F (fun y hy => by obtain ⟨b, _, rfl⟩ := List.mem_map.1 hy; exact Bfs b) h6
  rw [Bbr] at hb
  have hbs : Bs w (some ⟨b, off, none⟩) l := fun j hj => ⟨b, off, rfl, h7 j _ (by rw [hb, List.getElem?_map, List.getElem?_eq_getElem hj, List.getD_eq_getElem?_getD, List.getElem?_eq_getElem hj]; rfl)⟩
  have := h (some ⟨b, off, none⟩) cap w hbs
  rw [show (l.map by8).length = l.length from by simp]
  exact this.mono fun e w' h => fin e w' h
theorem BDr (b : List UInt8) (hb : b.length ≤ 1000000000) : A4p Tryz.prog 16 [slB b] (fun x => x = .arr 20 1 ((sha b).map by8)) :=
 A4p.of_bytes (BaK b) fun a cap w h => BxO a cap b w h hb
theorem Bz8 (b : List UInt8) (hb : b.length ≤ 1000000000) : A4p Tryz.prog 20 [slB b] (fun x => x = .arr 20 1 ((sha b).map by8)) :=
 A4p.of_bytes (BaK b) fun a cap w h => Bxk a cap b w h hb
end Go.Proofs.YtmlompedpahkjaaGreatDoor


namespace Go.Proofs.YtmlompedpahkjaaGreatDoor
open Go.RowKit Kit
variable [A4e]
set_option linter.unusedSectionVars false
set_option linter.unusedVariables false
set_option linter.unusedSimpArgs false

variable [A3k] [A3n]
def A7W (no : Nat → TV) (yes : List UInt8 → TV) (k : Int) (d : List UInt8) (r : TV) : Prop := (∀ b, A9O k d = .ok b → r = yes b) ∧ (∀ c, A9O k d = .error c → r = no c)
theorem A7W.ok {no : Nat → TV} {yes : List UInt8 → TV} {k : Int} {d b : List UInt8} (h : A9O k d = .ok b) : A7W no yes k d (yes b) := ⟨fun x hx => (by rw [h] at hx; cases hx; rfl), fun c hc => (by rw [h] at hc; cases hc)⟩
theorem A7W.err {no : Nat → TV} {yes : List UInt8 → TV} {k : Int} {d : List UInt8} {c : Nat} (h : A9O k d = .error c) : A7W no yes k d (no c) := ⟨fun x hx => (by rw [h] at hx; cases hx), fun c hc => (by rw [h] at hc; cases hc; rfl)⟩
theorem BjD {k : Int} {d b : List UInt8} (h : A9O k d = .ok b) : b.length ≤ d.length + 100034 := by
 unfold A9O at h
 split at h
 ·cases h
 ·rename_i n hn
  split at h
  ·cases h
   have h1 := (Bag hn).2.2
   have h2 : (Lib.decDigits d.length).length ≤ d.length + 1 := by
    have h3 := Bi2 d.length
    have h4 := Lib.nDigits_le20 d.length (by omega)
    rw [h3]
    rcases Nat.lt_or_ge d.length 20 with h5 | h5
    ·have h6 : d.length < 10 ^ 2 := by omega
     by_cases h7 : d.length < 10
     ·rw [Lib.nDigits_small h7]; omega
     ·rw [Lib.nDigits_big h7, Lib.nDigits_small (by omega)]; omega
    ·omega
   simp only [List.length_append, List.length_cons]
   omega
  ·cases h
theorem Bqr (k : Int) (h1 : -9223372036854775808 ≤ k) (h2 : k ≤ 9223372036854775807) (d : List UInt8) (hd : d.length ≤ 1000000) : A9X Tryz.prog 5 [.agg [i64 k, slB d]] (A7W (fun c => .tup [.val (.slice none 0 0), Bs6 (c : Int)]) (fun b => .tup [slB b, .val .nilIface]) k d) := by
 refine A3p.toFreshV (BgL (by simp) ?_)
 simp -dsimp (disch := first | assumption | omega | (simp only [A3b]; done) | (simp only [A3b]; omega)) only [↓A3g, A3c, A3e, A3f, eq_self, forall_const, Nat.reduceLT, Nat.reduceEqDiff, Nat.reduceSub, Nat.reduceMul, Nat.reduceMod, Nat.reduceDiv, Nat.reducePow, UInt8.reduceToNat, Int.reduceEq, Int.reduceLT, Int.reduceLE, ↓reduceIte, Nat.reduceAdd, Int.reduceToNat, reduceCtorEq, Nat.reduceLeDiff, ↓BfT, ↓Bc2]
 refine (BpT k h1 h2).calls rfl fun r hr => ?_
 cases hk : A6a k with
 | none =>
  rw [hr.2 hk]
  have he : A9O k d = .error 20 := by unfold A9O; rw [hk]
  simp -dsimp (disch := first | assumption | omega | (simp only [A3b]; done) | (simp only [A3b]; omega)) only [↓A3g, A3c, A3e, A3f, eq_self, forall_const, Nat.reduceLT, Nat.reduceEqDiff, Nat.reduceSub, Nat.reduceMul, Nat.reduceMod, Nat.reduceDiv, Nat.reducePow, UInt8.reduceToNat, Int.reduceEq, Int.reduceLT, Int.reduceLE, ↓reduceIte, Nat.reduceAdd, Int.reduceToNat, reduceCtorEq, Nat.reduceLeDiff, ↓A6s, ↓A8o]
  exact A7W.err (no := fun c => .tup [.val (.slice none 0 0), Bs6 (c : Int)]) he
 | some n =>
  rw [hr.1 n hk]
  have hn6 := (Bag hk).2.2
  by_cases hl : d.length ≤ 100000
  case neg =>
   have he : A9O k d = .error 11 := by unfold A9O; rw [hk]; simp only; rw [if_neg hl]
   simp -dsimp (disch := first | assumption | omega | (simp only [A3b]; done) | (simp only [A3b]; omega)) only [↓A3g, A3c, A3e, A3f, eq_self, forall_const, Nat.reduceLT, Nat.reduceEqDiff, Nat.reduceSub, Nat.reduceMul, Nat.reduceMod, Nat.reduceDiv, Nat.reducePow, UInt8.reduceToNat, Int.reduceEq, Int.reduceLT, Int.reduceLE, ↓reduceIte, Nat.reduceAdd, Int.reduceToNat, reduceCtorEq, Nat.reduceLeDiff, ↓A6s, ↓A8N, ↓A8o]
   exact A7W.err (no := fun c => .tup [.val (.slice none 0 0), Bs6 (c : Int)]) he
  have he : A9O k d = .ok (n ++ 32 :: Lib.decDigits d.length ++ 0 :: d) := by unfold A9O; rw [hk]; simp only; rw [if_pos hl]
  have htn : ∀ x : List UInt8, (x.map by8).take x.length = x.map by8 := fun x => List.take_of_length_le (by simp)
  have one_r : ∀ z a : TV, (List.replicate 1 z).set 0 a = [a] := fun z a => by simp
  have ht1 : ∀ y : TV, List.take 1 [y] = [y] := fun y => rfl
  simp -dsimp (disch := first | assumption | omega | (simp only [A3b]; done) | (simp only [A3b]; omega)) only [↓A3g, A3c, A3e, A3f, eq_self, forall_const, Nat.reduceLT, Nat.reduceEqDiff, Nat.reduceSub, Nat.reduceMul, Nat.reduceMod, Nat.reduceDiv, Nat.reducePow, UInt8.reduceToNat, Int.reduceEq, Int.reduceLT, Int.reduceLE, ↓reduceIte, Nat.reduceAdd, Int.reduceToNat, reduceCtorEq, Nat.reduceLeDiff, ↓A6s, ↓A8N, ↓Bc5, Bjd, htn, one_r, ht1]
  have e1 : n.map by8 ++ [TV.val (.int .u8 ((32 : Nat) : Int))] = (n ++ [32]).map by8 := by simp [by8]
  have e2 : n.length + 1 = (n ++ [32]).length := by simp
  rw [e1, e2]
  have hn7 : (n ++ [(32 : UInt8)]).length ≤ 7 := by simp; omega
  have hb' : n ++ 32 :: Lib.decDigits d.length ++ 0 :: d = (n ++ [32]) ++ Lib.decDigits d.length ++ [0] ++ d := by simp
  rw [hb'] at he
  have hlX : ∀ x : List UInt8, x = x := fun _ => rfl
  have hdl := Bi2 d.length
  have hd20 := Lib.nDigits_le20 d.length (by omega)
  generalize n ++ [(32 : UInt8)] = L at *
  simp -dsimp (disch := first | assumption | omega | (simp only [A3b]; done) | (simp only [A3b]; omega)) only [↓A3g, A3c, A3e, A3f, eq_self, forall_const, Nat.reduceLT, Nat.reduceEqDiff, Nat.reduceSub, Nat.reduceMul, Nat.reduceMod, Nat.reduceDiv, Nat.reducePow, UInt8.reduceToNat, Int.reduceEq, Int.reduceLT, Int.reduceLE, ↓reduceIte, Nat.reduceAdd, Int.reduceToNat, reduceCtorEq, Nat.reduceLeDiff, ↓Bda]
  refine BgW (Bnk (L := L) (by omega) (by omega) rfl fun H' v' h1 h2 h3 => ?_)
  have h0 : H'[0]? = some (.obj 0 (.agg [i64 k, slB d])) := h2 0 (by simp) (by simp)
  generalize hM : L ++ Lib.decDigits d.length = M at *
  have hMl : M.length ≤ 30 := by rw [← hM, List.length_append]; omega
  have hid := (List.getElem?_eq_some_iff.1 h3).1
  have hat : ∀ o : Ob, (H'.set 1 o)[1]? = some o := fun o => List.getElem?_set_self hid
  have hat0 : ∀ o : Ob, (H'.set 1 o)[0]? = H'[0]? := fun o => List.getElem?_set_ne (by omega)
  have hst : ∀ o o' : Ob, (H'.set 1 o).set 1 o' = H'.set 1 o' := fun o o' => List.set_set ..
  have e3 : M.map by8 ++ [TV.val (.int .u8 ((0 : Nat) : Int))] = (M ++ [0]).map by8 := by simp [by8]
  simp -dsimp (disch := first | assumption | omega | (simp only [A3b]; done) | (simp only [A3b]; omega)) only [↓A3g, A3c, A3e, A3f, eq_self, forall_const, Nat.reduceLT, Nat.reduceEqDiff, Nat.reduceSub, Nat.reduceMul, Nat.reduceMod, Nat.reduceDiv, Nat.reducePow, UInt8.reduceToNat, Int.reduceEq, Int.reduceLT, Int.reduceLE, ↓reduceIte, Nat.reduceAdd, Int.reduceToNat, reduceCtorEq, Nat.reduceLeDiff, h3, htn, h0, one_r, ht1]
  refine ⟨⟨?_, ?_⟩, ?_⟩
  case refine_2 =>
   change Bcd [35] _ _ _
   refine Bow (id := 0) (ver := 0) (p := [(1, 1)]) (by simp [get]) ?_ Bmy
   rw [List.getElem?_append_left (by simp; omega), List.getElem?_append_left (by simp; omega), List.getElem?_set_ne (by omega), List.getElem?_set_ne (by omega)]
  case refine_3 =>
   change Bcd [35] _ _ _
   refine Bow (id := 0) (ver := 0) (p := [(1, 1)]) (by simp [get]) ?_ Bmy
   rw [List.getElem?_append_left (by simp; omega), List.getElem?_append_left (by omega), List.getElem?_set_ne (by omega)]
  rw [e3, List.take_of_length_le (by simp)]
  have e4 : (M ++ [(0 : UInt8)]).map by8 ++ d.map by8 = (M ++ [0] ++ d).map by8 := by simp
  have e5 : M.length + 1 + d.length = (M ++ [(0 : UInt8)] ++ d).length := by simp; omega
  rw [e4, e5]
  have := A7W.ok (no := fun c => .tup [.val (.slice none 0 0), Bs6 (c : Int)]) (yes := fun b => .tup [slB b, .val .nilIface]) he
  generalize M ++ [(0 : UInt8)] ++ d = X at *
  have hat2 : ∀ o (T : List Ob), (H'.set 1 o ++ T)[1]? = some o := fun o T => by rw [List.getElem?_append_left (by simpa using hid), List.getElem?_set_self hid]
  simp -dsimp (disch := first | assumption | omega | (simp only [A3b]; done) | (simp only [A3b]; omega)) only [↓A3g, A3c, A3e, A3f, eq_self, forall_const, Nat.reduceLT, Nat.reduceEqDiff, Nat.reduceSub, Nat.reduceMul, Nat.reduceMod, Nat.reduceDiv, Nat.reducePow, UInt8.reduceToNat, Int.reduceEq, Int.reduceLT, Int.reduceLE, ↓reduceIte, Nat.reduceAdd, Int.reduceToNat, reduceCtorEq, Nat.reduceLeDiff, ↓A8o, hat2, htn]
  exact this
/-- The id of an object; or the error. -/
theorem idF (k : Int) (h1 : -9223372036854775808 ≤ k) (h2 : k ≤ 9223372036854775807) (d : List UInt8) (hd : d.length ≤ 1000000) : A9X Tryz.prog 6 [.agg [i64 k, slB d]] (A7W (fun c => .tup [.arr 20 1 ((List.replicate 20 (0 : UInt8)).map by8), Bs6 (c : Int)]) (fun b => .tup [.arr 20 1 ((sha b).map by8), .val .nilIface]) k d) := by
 refine A3p.toFreshV (Bkl (by simp) ?_)
 simp -dsimp (disch := first | assumption | omega | (simp only [A3b]; done) | (simp only [A3b]; omega)) only [↓A3g, A3c, A3e, A3f, eq_self, forall_const, Nat.reduceLT, Nat.reduceEqDiff, Nat.reduceSub, Nat.reduceMul, Nat.reduceMod, Nat.reduceDiv, Nat.reducePow, UInt8.reduceToNat, Int.reduceEq, Int.reduceLT, Int.reduceLE, ↓reduceIte, Nat.reduceAdd, Int.reduceToNat, reduceCtorEq, Nat.reduceLeDiff, ↓Bjf, ↓BgD]
 refine (Bqr k h1 h2 d hd).pure.calls rfl fun r hr => ?_
 cases he : A9O k d with
 | error c =>
  rw [hr.2 c he]
  have := A7W.err (no := fun c => .tup [.arr 20 1 ((List.replicate 20 (0 : UInt8)).map by8), Bs6 (c : Int)]) (yes := fun b => .tup [.arr 20 1 ((sha b).map by8), .val .nilIface]) he
  simp -dsimp (disch := first | assumption | omega | (simp only [A3b]; done) | (simp only [A3b]; omega)) only [↓A3g, A3c, A3e, A3f, eq_self, forall_const, Nat.reduceLT, Nat.reduceEqDiff, Nat.reduceSub, Nat.reduceMul, Nat.reduceMod, Nat.reduceDiv, Nat.reducePow, UInt8.reduceToNat, Int.reduceEq, Int.reduceLT, Int.reduceLE, ↓reduceIte, Nat.reduceAdd, Int.reduceToNat, reduceCtorEq, Nat.reduceLeDiff, ↓Bby]
  exact this
 | ok b =>
  rw [hr.1 b he]
  have hbl : b.length ≤ 1000000000 := by have := BjD he; omega
  have := A7W.ok (no := fun c => .tup [.arr 20 1 ((List.replicate 20 (0 : UInt8)).map by8), Bs6 (c : Int)]) (yes := fun b => .tup [.arr 20 1 ((sha b).map by8), .val .nilIface]) he
  simp -dsimp (disch := first | assumption | omega | (simp only [A3b]; done) | (simp only [A3b]; omega)) only [↓A3g, A3c, A3e, A3f, eq_self, forall_const, Nat.reduceLT, Nat.reduceEqDiff, Nat.reduceSub, Nat.reduceMul, Nat.reduceMod, Nat.reduceDiv, Nat.reducePow, UInt8.reduceToNat, Int.reduceEq, Int.reduceLT, Int.reduceLE, ↓reduceIte, Nat.reduceAdd, Int.reduceToNat, reduceCtorEq, Nat.reduceLeDiff, ↓Bby]
  refine (BDr b hbl).calls rfl fun r hr => ?_
  subst hr
  have hsl := BaK b
  generalize sha b = q at *
  simp -dsimp (disch := first | assumption | omega | (simp only [A3b]; done) | (simp only [A3b]; omega)) only [↓A3g, A3c, A3e, A3f, eq_self, forall_const, Nat.reduceLT, Nat.reduceEqDiff, Nat.reduceSub, Nat.reduceMul, Nat.reduceMod, Nat.reduceDiv, Nat.reducePow, UInt8.reduceToNat, Int.reduceEq, Int.reduceLT, Int.reduceLE, ↓reduceIte, Nat.reduceAdd, Int.reduceToNat, reduceCtorEq, Nat.reduceLeDiff, ↓Bby, hsl]
  exact this
end Go.Proofs.YtmlompedpahkjaaGreatDoor


namespace Go.Proofs.YtmlompedpahkjaaGreatDoor
open Go.RowKit
variable [A4e]
set_option linter.unusedSectionVars false
set_option linter.unusedVariables false
set_option linter.unusedSimpArgs false

/-- A decimal digit. -/
def Bhz (b : UInt8) : Bool := 48 ≤ b.toNat && b.toNat ≤ 57
/-- Digits aS a number, from one on. -/
def Bk9 : Nat → List UInt8 → Nat
 | n, [] => n
 | n, b :: l => Bk9 (n * 10 + (b.toNat - 48)) l
theorem Bg4 : ∀ (l m : List UInt8) (n : Nat), Bk9 n (l ++ m) = Bk9 (Bk9 n l) m
 | [], _, _ => rfl
 | b :: l, m, n => Bg4 l m _
theorem Boa : ∀ (l : List UInt8) (n : Nat), n ≤ Bk9 n l
 | [], n => Nat.le_refl _
 | b :: l, n => Nat.le_trans (by omega) (Boa l _)
/-- What ParseUint says: the number, or none. -/
def pU (s : List UInt8) : Option Nat := if s ≠ [] ∧ s.all Bhz ∧ Bk9 0 s < 4611686018427387904 then some (Bk9 0 s) else none
theorem BDn : ∀ b : Nat, b < 256 → ¬ (48 ≤ b ∧ b ≤ 57) → 97 ≤ b ||| 32 → b ||| 32 ≤ 122 → 10 ≤ (b ||| 32) - 97 + 10 := by
 intro b h1 h2 h3 h4; omega
/-- What the walk answers. -/
def BkS (s : List UInt8) (r : TV) : Prop := (∀ n, pU s = some n → r = .tup [.val (.int .u64 (n : Int)), .val .nilIface]) ∧ (pU s = none → ∃ m c : Nat, (c = 1 ∨ c = 2) ∧ r = .tup [.val (.int .u64 (m : Int)), .ifc 132 (i64 (c : Int))])
theorem BkS.no {s : List UInt8} (h : pU s = none) {m c : Nat} (hc : c = 1 ∨ c = 2) : BkS s (.tup [.val (.int .u64 (m : Int)), .ifc 132 (i64 (c : Int))]) :=
 ⟨fun n hn => (by rw [h] at hn; cases hn), fun _ => ⟨m, c, hc, rfl⟩⟩
theorem BkS.yes {s : List UInt8} {n : Nat} (h : pU s = some n) : BkS s (.tup [.val (.int .u64 (n : Int)), .val .nilIface]) :=
 ⟨fun m hm => (by rw [h] at hm; cases hm; rfl), fun hn => (by rw [h] at hn; cases hn)⟩
theorem Bxu {s : List UInt8} {i : Nat} {b : UInt8} (h : s[i]? = some b) (hb : Bhz b = false) : pU s = none := by
 unfold pU
 rw [if_neg]
 rintro ⟨_, h2, _⟩
 have := List.all_eq_true.1 h2 b (List.mem_of_getElem? h)
 rw [hb] at this; cases this
theorem Buj {s : List UInt8} {i : Nat} (h : 4611686018427387904 ≤ Bk9 0 (s.take i)) : pU s = none := by
 unfold pU
 rw [if_neg]
 rintro ⟨_, _, h3⟩
 have : Bk9 0 s = Bk9 (Bk9 0 (s.take i)) (s.drop i) := by rw [← Bg4, List.take_append_drop]
 have h4 := Boa (s.drop i) (Bk9 0 (s.take i))
 omega
theorem Bix (b : UInt8) : A4p Tryz.prog 71 [by8 b] (fun r => r = .val (.int .u8 ((b.toNat ||| 32 : Nat) : Int))) := by
 refine A3p.toPureV (A94 (by simp) ?_)
 have hb := b.toNat_lt
 simp -dsimp (disch := first | assumption | omega | (simp only [A3b]; done) | (simp only [A3b]; omega)) only [↓A3g, A3c, A3e, A3f, eq_self, forall_const, Nat.reduceLT, Nat.reduceEqDiff, Nat.reduceSub, Nat.reduceMul, Nat.reduceMod, Nat.reduceDiv, Nat.reducePow, UInt8.reduceToNat, Int.reduceEq, Int.reduceLT, Int.reduceLE, ↓reduceIte, Nat.reduceAdd, Int.reduceToNat, reduceCtorEq, Nat.reduceLeDiff, ↓Ban, BA3]
theorem ByH (s : List UInt8) (hs : s.length ≤ 1000000) : A4p Tryz.prog 57 [ts s, i64 ((10 : Nat) : Int), i64 ((62 : Nat) : Int)] (BkS s) := by
 refine A3p.toPureV (A8D (by simp) ?_)
 by_cases h0 : s = []
 ·subst h0
  have hn : pU [] = none := by unfold pU; simp
  simp -dsimp (disch := first | assumption | omega | (simp only [A3b]; done) | (simp only [A3b]; omega)) only [↓A3g, A3c, A3e, A3f, eq_self, forall_const, Nat.reduceLT, Nat.reduceEqDiff, Nat.reduceSub, Nat.reduceMul, Nat.reduceMod, Nat.reduceDiv, Nat.reducePow, UInt8.reduceToNat, Int.reduceEq, Int.reduceLT, Int.reduceLE, ↓reduceIte, Nat.reduceAdd, Int.reduceToNat, reduceCtorEq, Nat.reduceLeDiff, ↓A5P, ↓A4X, ↓A3h]
  exact BkS.no hn (.inr rfl)
 have hw1 : IntKind.u64.wrap ((62 : Nat) : Int) = ((62 : Nat) : Int) := Bd0 (by omega)
 simp -dsimp (disch := first | assumption | omega | (simp only [A3b]; done) | (simp only [A3b]; omega)) only [↓A3g, A3c, A3e, A3f, eq_self, forall_const, Nat.reduceLT, Nat.reduceEqDiff, Nat.reduceSub, Nat.reduceMul, Nat.reduceMod, Nat.reduceDiv, Nat.reducePow, UInt8.reduceToNat, Int.reduceEq, Int.reduceLT, Int.reduceLE, ↓reduceIte, Nat.reduceAdd, Int.reduceToNat, reduceCtorEq, Nat.reduceLeDiff, ↓A5P, ↓A4X, ↓A3h, h0, ↓A7b, ↓A7j, ↓A69, ↓A7e, ↓A7q, ↓A7s]
 simp -dsimp (disch := first | assumption | omega | (simp only [A3b]; done) | (simp only [A3b]; omega)) only [↓A3g, A3c, A3e, A3f, eq_self, forall_const, Nat.reduceLT, Nat.reduceEqDiff, Nat.reduceSub, Nat.reduceMul, Nat.reduceMod, Nat.reduceDiv, Nat.reducePow, UInt8.reduceToNat, Int.reduceEq, Int.reduceLT, Int.reduceLE, ↓reduceIte, Nat.reduceAdd, Int.reduceToNat, reduceCtorEq, Nat.reduceLeDiff, ↓A7o, ↓A7g, ↓A7n, hw1, Brj, Bsp, ↓A7k, ↓A7m, ↓A7r, Bjd, ↓A7p]
 refine Bgt (fun q e H => ∃ (i n : Nat), q = s.length - i ∧ i ≤ s.length ∧ (s.take i).all Bhz = true ∧ n = Bk9 0 (s.take i) ∧ n < 4611686018427387904 ∧ H = [.obj 0 (.arr s.length 1 (s.map by8))] ∧
  e = [(1, i64 ((10 : Nat) : Int)), (8, tb false), (9, ts s), (10, .val (.int .u64 ((1844674407370955162 : Nat) : Int))), (11, .val (.int .u64 ((4611686018427387903 : Nat) : Int))), (12, tb false), (13, .val (.int .u64 (n : Int))), (99, .os 1 0 0 [] 0 s.length s.length), (100, i64 (s.length : Int)), (101, i64 (i : Int))]) s.length ?_ ?_
 ·refine ⟨0, 0, ?_, Nat.zero_le _, ?_, ?_, ?_, ?_, ?_⟩
  ·simp
  ·rw [List.take_zero]; rfl
  ·rw [List.take_zero]; rfl
  ·omega
  ·simp
  ·simp [forget, get]
 ·rintro q e H ⟨i, n, rfl, hi, hall, hn, hnl, rfl, rfl⟩
  by_cases c : i < s.length
  ·have hg : s[i]? = some s[i] := List.getElem?_eq_getElem c
   have hsucc := List.take_succ_eq_append_getElem c
   generalize s[i] = b at *
   have hb := b.toNat_lt
   have hnum : Bk9 0 (s.take (i + 1)) = n * 10 + (b.toNat - 48) := by rw [hsucc, Bg4, ← hn]; rfl
   have hw10 : IntKind.u8.wrap ((10 : Nat) : Int) = ((10 : Nat) : Int) := by decide
   have hw10' : IntKind.u64.wrap ((10 : Nat) : Int) = ((10 : Nat) : Int) := by decide
   by_cases hd : 48 ≤ b.toNat ∧ b.toNat ≤ 57
   ·have hisd : Bhz b = true := by unfold Bhz; simp [hd]
    have h95 : ¬ b.toNat = 95 := by omega
    have hwd : IntKind.u64.wrap ((b.toNat - 48 : Nat) : Int) = ((b.toNat - 48 : Nat) : Int) := Bd0 (by omega)
    by_cases hc : 1844674407370955162 ≤ n
    ·have hno := Buj (s := s) (i := i + 1) (by rw [hnum]; omega)
     simp -dsimp (disch := first | assumption | omega | (simp only [A3b]; done) | (simp only [A3b]; omega)) only [↓A3g, A3c, A3e, A3f, eq_self, forall_const, Nat.reduceLT, Nat.reduceEqDiff, Nat.reduceSub, Nat.reduceMul, Nat.reduceMod, Nat.reduceDiv, Nat.reducePow, UInt8.reduceToNat, Int.reduceEq, Int.reduceLT, Int.reduceLE, ↓reduceIte, Nat.reduceAdd, Int.reduceToNat, reduceCtorEq, Nat.reduceLeDiff, ↓A3w, ↓A3u, ↓A3M, hg, ↓A3N, ↓A3O, h95, ↓A3Q, ↓A3P, ↓A3v, BmV, ↓A3L, hw10, ↓A4W, ↓A3h]
     exact BkS.no hno (.inl rfl)
    ·have hnl2 := hnl
     clear hnl
     have hn10 : n * 10 < 18446744073709551616 := by omega
     have hadd : ∀ t, A6b t .add (.int .u64 ((n * 10 : Nat) : Int)) (.int .u64 ((b.toNat - 48 : Nat) : Int)) = some (.int .u64 (((n * 10 + (b.toNat - 48)) % 18446744073709551616 : Nat) : Int)) := fun t => by
      rw [show A6b t .add (.int .u64 ((n * 10 : Nat) : Int)) (.int .u64 ((b.toNat - 48 : Nat) : Int)) = some (.int .u64 (IntKind.u64.wrap (((n * 10 : Nat) : Int) + ((b.toNat - 48 : Nat) : Int)))) from rfl, IntKind.wrap_u64]
      congr 2
     simp -dsimp (disch := first | assumption | omega | (simp only [A3b]; done) | (simp only [A3b]; omega)) only [↓A3g, A3c, A3e, A3f, eq_self, forall_const, Nat.reduceLT, Nat.reduceEqDiff, Nat.reduceSub, Nat.reduceMul, Nat.reduceMod, Nat.reduceDiv, Nat.reducePow, UInt8.reduceToNat, Int.reduceEq, Int.reduceLT, Int.reduceLE, ↓reduceIte, Nat.reduceAdd, Int.reduceToNat, reduceCtorEq, Nat.reduceLeDiff, ↓A3w, ↓A3u, ↓A3M, hg, ↓A3N, ↓A3O, h95, ↓A3Q, ↓A3P, ↓A3v, BmV, ↓A3L, hw10, ↓A4W, ↓A3h, ↓A66, hw10', BsC, ↓A65, hwd, hadd, ↓A67]
     by_cases hbig : 4611686018427387904 ≤ n * 10 + (b.toNat - 48)
     ·have hno := Buj (s := s) (i := i + 1) (by rw [hnum]; exact hbig)
      by_cases hwr : (n * 10 + (b.toNat - 48)) % 18446744073709551616 < n * 10
      ·simp -dsimp (disch := first | assumption | omega | (simp only [A3b]; done) | (simp only [A3b]; omega)) only [↓A3g, A3c, A3e, A3f, eq_self, forall_const, Nat.reduceLT, Nat.reduceEqDiff, Nat.reduceSub, Nat.reduceMul, Nat.reduceMod, Nat.reduceDiv, Nat.reducePow, UInt8.reduceToNat, Int.reduceEq, Int.reduceLT, Int.reduceLE, ↓reduceIte, Nat.reduceAdd, Int.reduceToNat, reduceCtorEq, Nat.reduceLeDiff, ↓A3h]
       exact BkS.no hno (.inl rfl)
      ·have hgt : (n * 10 + (b.toNat - 48)) % 18446744073709551616 > 4611686018427387903 := by omega
       simp -dsimp (disch := first | assumption | omega | (simp only [A3b]; done) | (simp only [A3b]; omega)) only [↓A3g, A3c, A3e, A3f, eq_self, forall_const, Nat.reduceLT, Nat.reduceEqDiff, Nat.reduceSub, Nat.reduceMul, Nat.reduceMod, Nat.reduceDiv, Nat.reducePow, UInt8.reduceToNat, Int.reduceEq, Int.reduceLT, Int.reduceLE, ↓reduceIte, Nat.reduceAdd, Int.reduceToNat, reduceCtorEq, Nat.reduceLeDiff, ↓A3h]
       exact BkS.no hno (.inl rfl)
     ·have hmod : (n * 10 + (b.toNat - 48)) % 18446744073709551616 = n * 10 + (b.toNat - 48) := Nat.mod_eq_of_lt (by omega)
      rw [hmod]
      simp -dsimp (disch := first | assumption | omega | (simp only [A3b]; done) | (simp only [A3b]; omega)) only [↓A3g, A3c, A3e, A3f, eq_self, forall_const, Nat.reduceLT, Nat.reduceEqDiff, Nat.reduceSub, Nat.reduceMul, Nat.reduceMod, Nat.reduceDiv, Nat.reducePow, UInt8.reduceToNat, Int.reduceEq, Int.reduceLT, Int.reduceLE, ↓reduceIte, Nat.reduceAdd, Int.reduceToNat, reduceCtorEq, Nat.reduceLeDiff]
      exact A6g (s.length - (i + 1)) (by omega) (by simp) ⟨i + 1, n * 10 + (b.toNat - 48), rfl, by omega, by rw [hsucc, List.all_append, hall]; simp [hisd], hnum.symm, by omega, rfl, by simp [forget, get]⟩
   ·have hno := Bxu hg (show Bhz b = false by unfold Bhz; simp; omega)
    by_cases h95 : b.toNat = 95
    ·have hor : (b.toNat ||| 32) = 127 := by rw [h95]; rfl
     simp -dsimp (disch := first | assumption | omega | (simp only [A3b]; done) | (simp only [A3b]; omega)) only [↓A3g, A3c, A3e, A3f, eq_self, forall_const, Nat.reduceLT, Nat.reduceEqDiff, Nat.reduceSub, Nat.reduceMul, Nat.reduceMod, Nat.reduceDiv, Nat.reducePow, UInt8.reduceToNat, Int.reduceEq, Int.reduceLT, Int.reduceLE, ↓reduceIte, Nat.reduceAdd, Int.reduceToNat, reduceCtorEq, Nat.reduceLeDiff, ↓A3w, ↓A3u, ↓A3M, hg, ↓A3N, ↓A3O, h95, ↓A3Q, ↓A3P, ↓A3v, ↓A4a]
     refine (Bix b).calls rfl fun r hr => ?_
     subst hr
     rw [hor]
     simp -dsimp (disch := first | assumption | omega | (simp only [A3b]; done) | (simp only [A3b]; omega)) only [↓A3g, A3c, A3e, A3f, eq_self, forall_const, Nat.reduceLT, Nat.reduceEqDiff, Nat.reduceSub, Nat.reduceMul, Nat.reduceMod, Nat.reduceDiv, Nat.reducePow, UInt8.reduceToNat, Int.reduceEq, Int.reduceLT, Int.reduceLE, ↓reduceIte, Nat.reduceAdd, Int.reduceToNat, reduceCtorEq, Nat.reduceLeDiff]
     refine (Bix b).calls rfl fun r hr => ?_
     subst hr
     rw [hor]
     simp -dsimp (disch := first | assumption | omega | (simp only [A3b]; done) | (simp only [A3b]; omega)) only [↓A3g, A3c, A3e, A3f, eq_self, forall_const, Nat.reduceLT, Nat.reduceEqDiff, Nat.reduceSub, Nat.reduceMul, Nat.reduceMod, Nat.reduceDiv, Nat.reducePow, UInt8.reduceToNat, Int.reduceEq, Int.reduceLT, Int.reduceLE, ↓reduceIte, Nat.reduceAdd, Int.reduceToNat, reduceCtorEq, Nat.reduceLeDiff, ↓A3h]
     exact BkS.no hno (.inr rfl)
    ·have hl := BDn b.toNat hb hd
     simp -dsimp (disch := first | assumption | omega | (simp only [A3b]; done) | (simp only [A3b]; omega)) only [↓A3g, A3c, A3e, A3f, eq_self, forall_const, Nat.reduceLT, Nat.reduceEqDiff, Nat.reduceSub, Nat.reduceMul, Nat.reduceMod, Nat.reduceDiv, Nat.reducePow, UInt8.reduceToNat, Int.reduceEq, Int.reduceLT, Int.reduceLE, ↓reduceIte, Nat.reduceAdd, Int.reduceToNat, reduceCtorEq, Nat.reduceLeDiff, ↓A3w, ↓A3u, ↓A3M, hg, ↓A3N, ↓A3O, h95, ↓A3Q, ↓A3P]
     by_cases c48 : 48 ≤ b.toNat
     ·have c57 : ¬ b.toNat ≤ 57 := by omega
      simp -dsimp (disch := first | assumption | omega | (simp only [A3b]; done) | (simp only [A3b]; omega)) only [↓A3g, A3c, A3e, A3f, eq_self, forall_const, Nat.reduceLT, Nat.reduceEqDiff, Nat.reduceSub, Nat.reduceMul, Nat.reduceMod, Nat.reduceDiv, Nat.reducePow, UInt8.reduceToNat, Int.reduceEq, Int.reduceLT, Int.reduceLE, ↓reduceIte, Nat.reduceAdd, Int.reduceToNat, reduceCtorEq, Nat.reduceLeDiff, ↓A3v, ↓A4a]
      refine (Bix b).calls rfl fun r hr => ?_
      subst hr
      have hlw := Bix b
      generalize b.toNat ||| 32 = x at *
      by_cases c97 : 97 ≤ x
      ·simp -dsimp (disch := first | assumption | omega | (simp only [A3b]; done) | (simp only [A3b]; omega)) only [↓A3g, A3c, A3e, A3f, eq_self, forall_const, Nat.reduceLT, Nat.reduceEqDiff, Nat.reduceSub, Nat.reduceMul, Nat.reduceMod, Nat.reduceDiv, Nat.reducePow, UInt8.reduceToNat, Int.reduceEq, Int.reduceLT, Int.reduceLE, ↓reduceIte, Nat.reduceAdd, Int.reduceToNat, reduceCtorEq, Nat.reduceLeDiff]
       refine hlw.calls rfl fun r hr => ?_
       subst hr
       by_cases c122 : x ≤ 122
       ·have h10 := hl c97 c122
        have hmod : (x - 97 + 10) % 256 = x - 97 + 10 := Nat.mod_eq_of_lt (by omega)
        simp -dsimp (disch := first | assumption | omega | (simp only [A3b]; done) | (simp only [A3b]; omega)) only [↓A3g, A3c, A3e, A3f, eq_self, forall_const, Nat.reduceLT, Nat.reduceEqDiff, Nat.reduceSub, Nat.reduceMul, Nat.reduceMod, Nat.reduceDiv, Nat.reducePow, UInt8.reduceToNat, Int.reduceEq, Int.reduceLT, Int.reduceLE, ↓reduceIte, Nat.reduceAdd, Int.reduceToNat, reduceCtorEq, Nat.reduceLeDiff]
        refine hlw.calls rfl fun r hr => ?_
        subst hr
        simp -dsimp (disch := first | assumption | omega | (simp only [A3b]; done) | (simp only [A3b]; omega)) only [↓A3g, A3c, A3e, A3f, eq_self, forall_const, Nat.reduceLT, Nat.reduceEqDiff, Nat.reduceSub, Nat.reduceMul, Nat.reduceMod, Nat.reduceDiv, Nat.reducePow, UInt8.reduceToNat, Int.reduceEq, Int.reduceLT, Int.reduceLE, ↓reduceIte, Nat.reduceAdd, Int.reduceToNat, reduceCtorEq, Nat.reduceLeDiff, BmV, Bub, hmod, ↓A3L, hw10, ↓A3h]
        exact BkS.no hno (.inr rfl)
       ·simp -dsimp (disch := first | assumption | omega | (simp only [A3b]; done) | (simp only [A3b]; omega)) only [↓A3g, A3c, A3e, A3f, eq_self, forall_const, Nat.reduceLT, Nat.reduceEqDiff, Nat.reduceSub, Nat.reduceMul, Nat.reduceMod, Nat.reduceDiv, Nat.reducePow, UInt8.reduceToNat, Int.reduceEq, Int.reduceLT, Int.reduceLE, ↓reduceIte, Nat.reduceAdd, Int.reduceToNat, reduceCtorEq, Nat.reduceLeDiff, ↓A3h]
        exact BkS.no hno (.inr rfl)
      ·simp -dsimp (disch := first | assumption | omega | (simp only [A3b]; done) | (simp only [A3b]; omega)) only [↓A3g, A3c, A3e, A3f, eq_self, forall_const, Nat.reduceLT, Nat.reduceEqDiff, Nat.reduceSub, Nat.reduceMul, Nat.reduceMod, Nat.reduceDiv, Nat.reducePow, UInt8.reduceToNat, Int.reduceEq, Int.reduceLT, Int.reduceLE, ↓reduceIte, Nat.reduceAdd, Int.reduceToNat, reduceCtorEq, Nat.reduceLeDiff, ↓A3h]
       exact BkS.no hno (.inr rfl)
     ·simp -dsimp (disch := first | assumption | omega | (simp only [A3b]; done) | (simp only [A3b]; omega)) only [↓A3g, A3c, A3e, A3f, eq_self, forall_const, Nat.reduceLT, Nat.reduceEqDiff, Nat.reduceSub, Nat.reduceMul, Nat.reduceMod, Nat.reduceDiv, Nat.reducePow, UInt8.reduceToNat, Int.reduceEq, Int.reduceLT, Int.reduceLE, ↓reduceIte, Nat.reduceAdd, Int.reduceToNat, reduceCtorEq, Nat.reduceLeDiff, ↓A3v, ↓A4a]
      refine (Bix b).calls rfl fun r hr => ?_
      subst hr
      have hlw := Bix b
      generalize b.toNat ||| 32 = x at *
      by_cases c97 : 97 ≤ x
      ·simp -dsimp (disch := first | assumption | omega | (simp only [A3b]; done) | (simp only [A3b]; omega)) only [↓A3g, A3c, A3e, A3f, eq_self, forall_const, Nat.reduceLT, Nat.reduceEqDiff, Nat.reduceSub, Nat.reduceMul, Nat.reduceMod, Nat.reduceDiv, Nat.reducePow, UInt8.reduceToNat, Int.reduceEq, Int.reduceLT, Int.reduceLE, ↓reduceIte, Nat.reduceAdd, Int.reduceToNat, reduceCtorEq, Nat.reduceLeDiff]
       refine hlw.calls rfl fun r hr => ?_
       subst hr
       by_cases c122 : x ≤ 122
       ·have h10 := hl c97 c122
        have hmod : (x - 97 + 10) % 256 = x - 97 + 10 := Nat.mod_eq_of_lt (by omega)
        simp -dsimp (disch := first | assumption | omega | (simp only [A3b]; done) | (simp only [A3b]; omega)) only [↓A3g, A3c, A3e, A3f, eq_self, forall_const, Nat.reduceLT, Nat.reduceEqDiff, Nat.reduceSub, Nat.reduceMul, Nat.reduceMod, Nat.reduceDiv, Nat.reducePow, UInt8.reduceToNat, Int.reduceEq, Int.reduceLT, Int.reduceLE, ↓reduceIte, Nat.reduceAdd, Int.reduceToNat, reduceCtorEq, Nat.reduceLeDiff]
        refine hlw.calls rfl fun r hr => ?_
        subst hr
        simp -dsimp (disch := first | assumption | omega | (simp only [A3b]; done) | (simp only [A3b]; omega)) only [↓A3g, A3c, A3e, A3f, eq_self, forall_const, Nat.reduceLT, Nat.reduceEqDiff, Nat.reduceSub, Nat.reduceMul, Nat.reduceMod, Nat.reduceDiv, Nat.reducePow, UInt8.reduceToNat, Int.reduceEq, Int.reduceLT, Int.reduceLE, ↓reduceIte, Nat.reduceAdd, Int.reduceToNat, reduceCtorEq, Nat.reduceLeDiff, BmV, Bub, hmod, ↓A3L, hw10, ↓A3h]
        exact BkS.no hno (.inr rfl)
       ·simp -dsimp (disch := first | assumption | omega | (simp only [A3b]; done) | (simp only [A3b]; omega)) only [↓A3g, A3c, A3e, A3f, eq_self, forall_const, Nat.reduceLT, Nat.reduceEqDiff, Nat.reduceSub, Nat.reduceMul, Nat.reduceMod, Nat.reduceDiv, Nat.reducePow, UInt8.reduceToNat, Int.reduceEq, Int.reduceLT, Int.reduceLE, ↓reduceIte, Nat.reduceAdd, Int.reduceToNat, reduceCtorEq, Nat.reduceLeDiff, ↓A3h]
        exact BkS.no hno (.inr rfl)
      ·simp -dsimp (disch := first | assumption | omega | (simp only [A3b]; done) | (simp only [A3b]; omega)) only [↓A3g, A3c, A3e, A3f, eq_self, forall_const, Nat.reduceLT, Nat.reduceEqDiff, Nat.reduceSub, Nat.reduceMul, Nat.reduceMod, Nat.reduceDiv, Nat.reducePow, UInt8.reduceToNat, Int.reduceEq, Int.reduceLT, Int.reduceLE, ↓reduceIte, Nat.reduceAdd, Int.reduceToNat, reduceCtorEq, Nat.reduceLeDiff, ↓A3h]
       exact BkS.no hno (.inr rfl)
  ·have hi2 : i = s.length := by omega
   subst hi2
   rw [List.take_length] at hn hall
   have hyes : pU s = some n := by unfold pU; rw [if_pos ⟨h0, hall, by rw [← hn]; exact hnl⟩, hn]
   simp -dsimp (disch := first | assumption | omega | (simp only [A3b]; done) | (simp only [A3b]; omega)) only [↓A3g, A3c, A3e, A3f, eq_self, forall_const, Nat.reduceLT, Nat.reduceEqDiff, Nat.reduceSub, Nat.reduceMul, Nat.reduceMod, Nat.reduceDiv, Nat.reducePow, UInt8.reduceToNat, Int.reduceEq, Int.reduceLT, Int.reduceLE, ↓reduceIte, Nat.reduceAdd, Int.reduceToNat, reduceCtorEq, Nat.reduceLeDiff, ↓A3w, ↓A3u, ↓A7i, ↓A3h]
   exact BkS.yes hyes
end Go.Proofs.YtmlompedpahkjaaGreatDoor


namespace Go.Proofs.YtmlompedpahkjaaGreatDoor
open Go.RowKit
variable [A4e]
set_option linter.unusedSectionVars false
set_option linter.unusedVariables false
set_option linter.unusedSimpArgs false

/-- These package variables hold an error each. -/
class A3G [A4e] : Prop where
 k : ∃ t a, A8v 4 = some (.one (.iface t (.pointer (some a))))
class A3S [A4e] : Prop where
 k : ∃ t a, A8v 5 = some (.one (.iface t (.pointer (some a))))
theorem Bkj {F : Nat → Prop} {w : World} (h : A8z F w) {g : Nat} {v : Value} (e : A8v g = some (.one v)) : w.cell? ⟨g, 0, none⟩ = some v := by
 have := h.at e 0 v rfl
 simpa using this
variable [A3G] [A3S]
theorem BzH (fn s : List UInt8) (base bits : Int) (hs : s.length ≤ 1000000) (c : Nat) (hc : c = 1 ∨ c = 2) : A4p Tryz.prog 58 [ts fn, ts s, i64 base, i64 bits, .ifc 132 (i64 (c : Int))] (fun r => r = .ifc 135 .any) := by
 intro β F w vs hF hv
 obtain ⟨v1, us, rfl, h1, hv⟩ := A3V.cons.1 hv
 obtain ⟨v2, us, rfl, h2, hv⟩ := A3V.cons.1 hv
 obtain ⟨v3, us, rfl, h3, hv⟩ := A3V.cons.1 hv
 obtain ⟨v4, us, rfl, h4, hv⟩ := A3V.cons.1 hv
 obtain ⟨v5, us, rfl, h5, hv⟩ := A3V.cons.1 hv
 rw [A3V.nil] at hv; subst hv
 obtain rfl := Rep.val.1 (Or.inl h1 : Rep _ _ _ _)
 obtain rfl := Rep.val.1 (Or.inl h2 : Rep _ _ _ _)
 obtain rfl := Rep.val.1 (Or.inl h3 : Rep _ _ _ _)
 obtain rfl := Rep.val.1 (Or.inl h4 : Rep _ _ _ _)
 have e5 : v5 = .iface 132 (.int .i64 (c : Int)) := by
  rcases h5 with h5 | h5 | ⟨us, h5, rfl⟩
  ·cases h5
  ·cases h5
  ·rw [A3i] at h5
   obtain ⟨u, rfl, vs, h6, rfl⟩ := h5
   rw [A3i] at h6
   rw [h6.1]; rfl
 subst e5
 have hsz : (str s).size ≤ 281474976710656 := by simp [str, ByteArray.size]; omega
 have fin : ∀ e w', (∃ N, e = Ending.returned (.iface 135 (.pointer (some ⟨N, 0, none⟩))) ∧ Below w.heap.size w w') → ∃ v x F', e = .returned v ∧ x = .ifc 135 .any ∧ Rep ⟨β, [], F'⟩ w' x v ∧ Baf F w F' w' := by
  rintro e w' ⟨N, rfl, hb⟩
  refine ⟨_, _, F, rfl, rfl, Rep.of_cells (us := [.iface 135 (.pointer (some ⟨N, 0, none⟩))]) ?_, ⟨hb.os, hb.tape, hb.output, hb.size, hb.block, fun _ h => h, fun _ _ h => h, fun b hb' => Nat.lt_of_lt_of_le (hF.1 b hb') hb.size⟩⟩
  rw [A3i]
  refine ⟨_, rfl, [.pointer (some ⟨N, 0, none⟩)], ?_, rfl⟩
  rw [A3i]
  exact ⟨_, rfl, rfl⟩
 rcases hc with rfl | rfl
 ·obtain ⟨t, a, hk⟩ := A3S.k
  refine (Tryz.strconv_toError_range (str fn) (str s) base bits _ w hsz (Bkj hF.2 hk) (.inr ⟨_, _, rfl⟩)).mono ?_
  rintro e w' ⟨N, rfl, _, _, hb⟩
  exact fin _ _ ⟨N, rfl, hb⟩
 ·obtain ⟨t, a, hk⟩ := A3G.k
  refine (Tryz.strconv_toError_syntax (str fn) (str s) base bits _ w hsz (Bkj hF.2 hk) (.inr ⟨_, _, rfl⟩)).mono ?_
  rintro e w' ⟨N, rfl, _, _, hb⟩
  exact fin _ _ ⟨N, rfl, hb⟩
/-- The number, or an error. -/
theorem BnI (s : List UInt8) (hs : s.length ≤ 1000000) : A4p Tryz.prog 44 [ts s, i64 ((10 : Nat) : Int), i64 ((62 : Nat) : Int)] (fun r => (∀ n, pU s = some n → r = .tup [.val (.int .u64 (n : Int)), .val .nilIface]) ∧ (pU s = none → ∃ m : Nat, r = .tup [.val (.int .u64 (m : Int)), .ifc 135 .any])) := by
 refine A3p.toPureV (Bdg (by simp) ?_)
 simp -dsimp (disch := first | assumption | omega | (simp only [A3b]; done) | (simp only [A3b]; omega)) only [↓A3g, A3c, A3e, A3f, eq_self, forall_const, Nat.reduceLT, Nat.reduceEqDiff, Nat.reduceSub, Nat.reduceMul, Nat.reduceMod, Nat.reduceDiv, Nat.reducePow, UInt8.reduceToNat, Int.reduceEq, Int.reduceLT, Int.reduceLE, ↓reduceIte, Nat.reduceAdd, Int.reduceToNat, reduceCtorEq, Nat.reduceLeDiff, ↓A5V]
 refine (ByH s hs).calls rfl fun r hr => ?_
 cases hp : pU s with
 | some n =>
  rw [hr.1 n hp]
  simp -dsimp (disch := first | assumption | omega | (simp only [A3b]; done) | (simp only [A3b]; omega)) only [↓A3g, A3c, A3e, A3f, eq_self, forall_const, Nat.reduceLT, Nat.reduceEqDiff, Nat.reduceSub, Nat.reduceMul, Nat.reduceMod, Nat.reduceDiv, Nat.reducePow, UInt8.reduceToNat, Int.reduceEq, Int.reduceLT, Int.reduceLE, ↓reduceIte, Nat.reduceAdd, Int.reduceToNat, reduceCtorEq, Nat.reduceLeDiff, ↓A5V]
  exact ⟨fun m hm => (by cases hm; rfl), fun h => (by cases h)⟩
 | none =>
  obtain ⟨m, c, hc, rfl⟩ := hr.2 hp
  simp -dsimp (disch := first | assumption | omega | (simp only [A3b]; done) | (simp only [A3b]; omega)) only [↓A3g, A3c, A3e, A3f, eq_self, forall_const, Nat.reduceLT, Nat.reduceEqDiff, Nat.reduceSub, Nat.reduceMul, Nat.reduceMod, Nat.reduceDiv, Nat.reducePow, UInt8.reduceToNat, Int.reduceEq, Int.reduceLT, Int.reduceLE, ↓reduceIte, Nat.reduceAdd, Int.reduceToNat, reduceCtorEq, Nat.reduceLeDiff, ↓A5V]
  refine (BzH _ s _ _ hs c hc).calls rfl fun r hr => ?_
  subst hr
  simp -dsimp (disch := first | assumption | omega | (simp only [A3b]; done) | (simp only [A3b]; omega)) only [↓A3g, A3c, A3e, A3f, eq_self, forall_const, Nat.reduceLT, Nat.reduceEqDiff, Nat.reduceSub, Nat.reduceMul, Nat.reduceMod, Nat.reduceDiv, Nat.reducePow, UInt8.reduceToNat, Int.reduceEq, Int.reduceLT, Int.reduceLE, ↓reduceIte, Nat.reduceAdd, Int.reduceToNat, reduceCtorEq, Nat.reduceLeDiff, ↓A5V]
  exact ⟨fun n h => h.elim, m, rfl⟩
end Go.Proofs.YtmlompedpahkjaaGreatDoor


namespace Go.Proofs.YtmlompedpahkjaaGreatDoor
open Go.RowKit
variable [A4e]
set_option linter.unusedSectionVars false
set_option linter.unusedVariables false

set_option maxHeartbeats 2000000 in
set_option maxRecDepth 100000 in
theorem Bgn (a : Addr) (n c : Nat) (xs : List Int) (cv : Int) (w : World) (hx : xs.length = n) (hc : ∀ i, i < n → w.cell? (a.add i) = some (.int .u8 (xs.getD i 0))) :
  Calls Tryz.prog 52 #[.slice (some a) n c, .int .u8 cv] w fun e w' => e = .returned (.int .i64 (Lib.indexByte (Lib.bytesOf xs) cv.toNat.toUInt8)) ∧ w' = w := by
 go_enter Tryz.func52, Tryz.ntmps52
 go_wp2
 rw [run_callFunc_extern Tryz.func69 (by kernel_rfl) (by kernel_rfl) (by kernel_rfl) (e := Extern.BytealgIndexByte.indexByte) (by kernel_rfl), Lib.run_indexByteAt w a n c xs hx hc cv]
 simp only [Result.andThen]
 rw [Oper.upon_value]
 go_wp2
 go_ret
 exact ⟨rfl, rfl⟩
set_option maxHeartbeats 2000000 in
set_option maxRecDepth 100000 in
theorem BjA (n c : Nat) (cv : Int) (w : World) :
  Calls Tryz.prog 52 #[.slice none n c, .int .u8 cv] w fun e w' => e = .returned (.int .i64 (-1)) ∧ w' = w := by
 go_enter Tryz.func52, Tryz.ntmps52
 go_wp2
 rw [run_callFunc_extern Tryz.func69 (by kernel_rfl) (by kernel_rfl) (by kernel_rfl) (e := Extern.BytealgIndexByte.indexByte) (by kernel_rfl), Lib.run_indexByteNil w n c cv]
 simp only [Result.andThen]
 rw [Oper.upon_value]
 go_wp2
 go_ret
 exact ⟨rfl, rfl⟩

theorem A4p.indexByte (l : List UInt8) (c : UInt8) : A4p Tryz.prog 52 [slB l, by8 c] (fun x => x = .val (.int .i64 (Lib.indexByte l c))) := by
 intro β F w vs hF hv
 obtain ⟨v, us, rfl, h1, hv⟩ := A3V.cons.1 hv
 obtain ⟨v2, us, rfl, h2, hv⟩ := A3V.cons.1 hv
 rw [A3V.nil] at hv; subst hv
 have h2' : v2 = .int .u8 c.toNat := by
  have := Rep.val.1 (Or.inl h2 : Rep _ _ _ _); exact this
 subst h2'
 have hcv : ((c.toNat : Int)).toNat.toUInt8 = c := by
  rw [Int.toNat_natCast]; simp
 have fin : ∀ e w', (e = Ending.returned (.int .i64 (Lib.indexByte l c)) ∧ w' = w) → ∃ v x F', e = .returned v ∧ x = .val (.int .i64 (Lib.indexByte l c)) ∧ Rep ⟨β, [], F'⟩ w' x v ∧ Baf F w F' w' := by
  rintro e w' ⟨rfl, rfl⟩
  exact ⟨_, _, F, rfl, rfl, Rep.of_val, ⟨rfl, rfl, rfl, Nat.le_refl _, fun _ _ => rfl, fun _ h => h, fun _ _ h => h, hF.1⟩⟩
 have hr0 : Rep ⟨β, [], F⟩ w (slB l) v := Or.inl h1
 have hr := hr0.sl
 obtain ⟨hw, hr⟩ := hr
 rcases hr with ⟨he, ad, cap, rfl, _⟩ | ⟨b, off, cap, us, rfl, h3, h4, h5, h6, h7⟩
 ·have hl : l = [] := by simpa using he
  subst hl
  cases ad with
  | none => exact (BjA 0 cap _ w).mono fun e w' h => fin e w' h
  | some ad =>
   refine (Bgn ad 0 cap [] c.toNat w rfl (fun i hi => by omega)).mono fun e w' h => fin e w' ?_
   exact h
 ·have hb := A7F (fun y hy => by obtain ⟨b, _, rfl⟩ := List.mem_map.1 hy; exact Bfs b) h6
  rw [Bbr] at hb
  refine (Bgn ⟨b, off, none⟩ (l.map by8).length cap (l.map fun b : UInt8 => (b.toNat : Int)) c.toNat w (by simp) (fun i hi => ?_)).mono fun e w' h => fin e w' ?_
  ·rw [A41]
   have hi' : i < l.length := by simpa using hi
   refine h7 i _ ?_
   rw [hb, List.getElem?_map, List.getElem?_eq_getElem hi', List.getD_eq_getElem?_getD, List.getElem?_map, List.getElem?_eq_getElem hi']
   rfl
  ·rw [hcv] at h
   have : Lib.bytesOf (l.map fun b : UInt8 => (b.toNat : Int)) = l := by
    simp [Lib.bytesOf, List.map_map, Function.comp_def]
   rw [this] at h; exact h
end Go.Proofs.YtmlompedpahkjaaGreatDoor


namespace Go.Proofs.YtmlompedpahkjaaGreatDoor
open Go.RowKit
variable [A4e]
set_option linter.unusedSectionVars false
set_option linter.unusedVariables false
set_option linter.unusedSimpArgs false

/-- Where a byte stands first. -/
def A9v (c : UInt8) : List UInt8 → Option Nat
 | [] => none
 | b :: l => if b = c then some 0 else (A9v c l).map (· + 1)
theorem Ba4 {c : UInt8} : ∀ {l : List UInt8} {i : Nat}, A9v c l = some i → i < l.length ∧ l[i]? = some c ∧ ¬ c ∈ l.take i
 | [], i, h => by cases h
 | b :: l, i, h => by
  rw [A9v] at h
  split at h
  ·rename_i e; cases h; exact ⟨by simp, by simp [e], by simp⟩
  ·rename_i e
   obtain ⟨j, hj, rfl⟩ := Option.map_eq_some_iff.1 h
   obtain ⟨h1, h2, h3⟩ := Ba4 hj
   exact ⟨by simp; omega, by simpa using h2, by simp [h3, Ne.symm e]⟩
theorem Bjo (c : UInt8) : ∀ l : List UInt8, Lib.indexByte l c = (match A9v c l with | some i => (i : Int) | none => -1) := by
 intro l
 induction l with
 | nil => rfl
 | cons b l ih =>
  rw [Lib.indexByte, A9v]
  by_cases e : b = c
  ·simp [e]
  ·rw [if_neg (by simpa using e), if_neg e, ih]
   cases hc : A9v c l with
   | none => simp
   | some i =>
    have : ¬ ((i : Int) == -1) = true := by simp
    simp only [Option.map_some]
    rw [if_neg this]; rfl
theorem BoY (s : List UInt8) (c : UInt8) (hs : s.length ≤ 1000000) : A4p Tryz.prog 43 [slB s, slB [c]] (fun r => r = i64 (Lib.indexByte s c)) := by
 refine A3p.toPureV (Bh2 (by simp) ?_)
 simp -dsimp (disch := first | assumption | omega | (simp only [A3b]; done) | (simp only [A3b]; omega)) only [↓A3g, A3c, A3e, A3f, eq_self, forall_const, Nat.reduceLT, Nat.reduceEqDiff, Nat.reduceSub, Nat.reduceMul, Nat.reduceMod, Nat.reduceDiv, Nat.reducePow, UInt8.reduceToNat, Int.reduceEq, Int.reduceLT, Int.reduceLE, ↓reduceIte, Nat.reduceAdd, Int.reduceToNat, reduceCtorEq, Nat.reduceLeDiff, ↓BfH]
 refine (A4p.indexByte s c).calls rfl fun r hr => ?_
 subst hr
 simp -dsimp (disch := first | assumption | omega | (simp only [A3b]; done) | (simp only [A3b]; omega)) only [↓A3g, A3c, A3e, A3f, eq_self, forall_const, Nat.reduceLT, Nat.reduceEqDiff, Nat.reduceSub, Nat.reduceMul, Nat.reduceMod, Nat.reduceDiv, Nat.reducePow, UInt8.reduceToNat, Int.reduceEq, Int.reduceLT, Int.reduceLE, ↓reduceIte, Nat.reduceAdd, Int.reduceToNat, reduceCtorEq, Nat.reduceLeDiff, ↓BfH]
theorem BBa (s : List UInt8) (c : UInt8) (hs : s.length ≤ 1000000) : A4p Tryz.prog 32 [slB s, slB [c]] (fun r => (∀ i, A9v c s = some i → r = .tup [slB (s.take i), slB (s.drop (i + 1)), tb true]) ∧ (A9v c s = none → r = .tup [slB s, .val (.slice none 0 0), tb false])) := by
 refine A3p.toPureV (BkL (by simp) ?_)
 simp -dsimp (disch := first | assumption | omega | (simp only [A3b]; done) | (simp only [A3b]; omega)) only [↓A3g, A3c, A3e, A3f, eq_self, forall_const, Nat.reduceLT, Nat.reduceEqDiff, Nat.reduceSub, Nat.reduceMul, Nat.reduceMod, Nat.reduceDiv, Nat.reducePow, UInt8.reduceToNat, Int.reduceEq, Int.reduceLT, Int.reduceLE, ↓reduceIte, Nat.reduceAdd, Int.reduceToNat, reduceCtorEq, Nat.reduceLeDiff, ↓Bev]
 refine (BoY s c hs).calls rfl fun r hr => ?_
 subst hr
 rw [Bjo]
 cases hc : A9v c s with
 | none =>
  simp only
  simp -dsimp (disch := first | assumption | omega | (simp only [A3b]; done) | (simp only [A3b]; omega)) only [↓A3g, A3c, A3e, A3f, eq_self, forall_const, Nat.reduceLT, Nat.reduceEqDiff, Nat.reduceSub, Nat.reduceMul, Nat.reduceMod, Nat.reduceDiv, Nat.reducePow, UInt8.reduceToNat, Int.reduceEq, Int.reduceLT, Int.reduceLE, ↓reduceIte, Nat.reduceAdd, Int.reduceToNat, reduceCtorEq, Nat.reduceLeDiff, ↓Bev]
  exact fun i h => h.elim
 | some i =>
  obtain ⟨h1, _, _⟩ := Ba4 hc
  simp only
  simp -dsimp (disch := first | assumption | omega | (simp only [A3b]; done) | (simp only [A3b]; omega)) only [↓A3g, A3c, A3e, A3f, eq_self, forall_const, Nat.reduceLT, Nat.reduceEqDiff, Nat.reduceSub, Nat.reduceMul, Nat.reduceMod, Nat.reduceDiv, Nat.reducePow, UInt8.reduceToNat, Int.reduceEq, Int.reduceLT, Int.reduceLE, ↓reduceIte, Nat.reduceAdd, Int.reduceToNat, reduceCtorEq, Nat.reduceLeDiff, ↓Bev]
  exact ⟨fun j h => (by cases h; rfl), fun h => h.elim⟩
theorem A38 {k : Int} {s : List UInt8} : A6a k = some s ↔ (k = 1 ∧ s = [99, 111, 109, 109, 105, 116]) ∨ (k = 2 ∧ s = [116, 114, 101, 101]) ∨ (k = 3 ∧ s = [98, 108, 111, 98]) ∨ (k = 4 ∧ s = [116, 97, 103]) := by
 unfold A6a
 constructor
 ·intro h
  split at h
  ·cases h; exact .inl ⟨by assumption, rfl⟩
  ·split at h
   ·cases h; exact .inr (.inl ⟨by assumption, rfl⟩)
   ·split at h
    ·cases h; exact .inr (.inr (.inl ⟨by assumption, rfl⟩))
    ·split at h
     ·cases h; exact .inr (.inr (.inr ⟨by assumption, rfl⟩))
     ·cases h
 ·rintro (⟨rfl, rfl⟩ | ⟨rfl, rfl⟩ | ⟨rfl, rfl⟩ | ⟨rfl, rfl⟩) <;> rfl
theorem Bus [A3n] (s : List UInt8) : A4p Tryz.prog 33 [ts s] (fun r => (∀ k, A6a k = some s → r = .tup [i64 k, tb true]) ∧ ((∀ k, A6a k ≠ some s) → r = .tup [i64 ((0 : Nat) : Int), tb false])) := by
 refine A3p.toPureV (BgP (by simp) ?_)
 have hk := A3n.k
 simp -dsimp (disch := first | assumption | omega | (simp only [A3b]; done) | (simp only [A3b]; omega)) only [↓A3g, A3c, A3e, A3f, eq_self, forall_const, Nat.reduceLT, Nat.reduceEqDiff, Nat.reduceSub, Nat.reduceMul, Nat.reduceMod, Nat.reduceDiv, Nat.reducePow, UInt8.reduceToNat, Int.reduceEq, Int.reduceLT, Int.reduceLE, ↓reduceIte, Nat.reduceAdd, Int.reduceToNat, reduceCtorEq, Nat.reduceLeDiff, ↓A3I, hk, BmJ]
 clear hk
 refine Bgt (fun q e H => ∃ i : Nat, q = 5 - i ∧ i ≤ 5 ∧ (∀ k : Int, k < i → A6a k ≠ some s) ∧ H = [] ∧
  e = [(0, ts s), (6, .arr 5 1 [ts [], ts [99, 111, 109, 109, 105, 116], ts [116, 114, 101, 101], ts [98, 108, 111, 98], ts [116, 97, 103]]), (7, i64 (i : Int))]) 5 ?_ ?_
 ·exact ⟨0, rfl, by omega, fun k hk h => by rw [A38] at h; omega, rfl, rfl⟩
 ·rintro q e H ⟨i, rfl, hi, hno, rfl, rfl⟩
  have next : ∀ j : Int, (∀ k : Int, k < j → A6a k ≠ some s) → A6a j ≠ some s → ∀ k : Int, k < j + 1 → A6a k ≠ some s := fun j h1 h2 k hk => by
   by_cases e : k = j
   ·subst e; exact h2
   ·exact h1 k (by omega)
  obtain h | h | h | h | h | h : i = 0 ∨ i = 1 ∨ i = 2 ∨ i = 3 ∨ i = 4 ∨ i = 5 := by omega
  ·subst h
   by_cases e0 : ([] : List UInt8) = s
   ·subst e0
    simp -dsimp (disch := first | assumption | omega | (simp only [A3b]; done) | (simp only [A3b]; omega)) only [↓A3g, A3c, A3e, A3f, eq_self, forall_const, Nat.reduceLT, Nat.reduceEqDiff, Nat.reduceSub, Nat.reduceMul, Nat.reduceMod, Nat.reduceDiv, Nat.reducePow, UInt8.reduceToNat, Int.reduceEq, Int.reduceLT, Int.reduceLE, ↓reduceIte, Nat.reduceAdd, Int.reduceToNat, reduceCtorEq, Nat.reduceLeDiff, ↓A3I]
    exact A6g 4 (by omega) (by simp) ⟨1, rfl, by omega, next 0 hno (by rw [Ne, A38]; omega), rfl, by simp [forget, get]⟩
   ·simp -dsimp (disch := first | assumption | omega | (simp only [A3b]; done) | (simp only [A3b]; omega)) only [↓A3g, A3c, A3e, A3f, eq_self, forall_const, Nat.reduceLT, Nat.reduceEqDiff, Nat.reduceSub, Nat.reduceMul, Nat.reduceMod, Nat.reduceDiv, Nat.reducePow, UInt8.reduceToNat, Int.reduceEq, Int.reduceLT, Int.reduceLE, ↓reduceIte, Nat.reduceAdd, Int.reduceToNat, reduceCtorEq, Nat.reduceLeDiff, ↓A3I, e0]
    exact A6g 4 (by omega) (by simp) ⟨1, rfl, by omega, next 0 hno (by rw [Ne, A38]; omega), rfl, by simp [forget, get]⟩
  ·subst h
   by_cases e0 : ([99, 111, 109, 109, 105, 116] : List UInt8) = s
   ·subst e0
    simp -dsimp (disch := first | assumption | omega | (simp only [A3b]; done) | (simp only [A3b]; omega)) only [↓A3g, A3c, A3e, A3f, eq_self, forall_const, Nat.reduceLT, Nat.reduceEqDiff, Nat.reduceSub, Nat.reduceMul, Nat.reduceMod, Nat.reduceDiv, Nat.reducePow, UInt8.reduceToNat, Int.reduceEq, Int.reduceLT, Int.reduceLE, ↓reduceIte, Nat.reduceAdd, Int.reduceToNat, reduceCtorEq, Nat.reduceLeDiff, ↓A3I]
    exact ⟨fun k h => (by rw [A38] at h; simp at h; rw [h]; rfl), fun h => absurd (A38.2 (by simp)) (h 1)⟩
   ·simp -dsimp (disch := first | assumption | omega | (simp only [A3b]; done) | (simp only [A3b]; omega)) only [↓A3g, A3c, A3e, A3f, eq_self, forall_const, Nat.reduceLT, Nat.reduceEqDiff, Nat.reduceSub, Nat.reduceMul, Nat.reduceMod, Nat.reduceDiv, Nat.reducePow, UInt8.reduceToNat, Int.reduceEq, Int.reduceLT, Int.reduceLE, ↓reduceIte, Nat.reduceAdd, Int.reduceToNat, reduceCtorEq, Nat.reduceLeDiff, ↓A3I, e0]
    exact A6g 3 (by omega) (by simp) ⟨2, rfl, by omega, next 1 hno (by rw [Ne, A38]; rintro (h | h | h | h) <;> first | omega | exact e0 h.2.symm), rfl, by simp [forget, get]⟩
  ·subst h
   by_cases e0 : ([116, 114, 101, 101] : List UInt8) = s
   ·subst e0
    simp -dsimp (disch := first | assumption | omega | (simp only [A3b]; done) | (simp only [A3b]; omega)) only [↓A3g, A3c, A3e, A3f, eq_self, forall_const, Nat.reduceLT, Nat.reduceEqDiff, Nat.reduceSub, Nat.reduceMul, Nat.reduceMod, Nat.reduceDiv, Nat.reducePow, UInt8.reduceToNat, Int.reduceEq, Int.reduceLT, Int.reduceLE, ↓reduceIte, Nat.reduceAdd, Int.reduceToNat, reduceCtorEq, Nat.reduceLeDiff, ↓A3I]
    exact ⟨fun k h => (by rw [A38] at h; simp at h; rw [h]; rfl), fun h => absurd (A38.2 (by simp)) (h 2)⟩
   ·simp -dsimp (disch := first | assumption | omega | (simp only [A3b]; done) | (simp only [A3b]; omega)) only [↓A3g, A3c, A3e, A3f, eq_self, forall_const, Nat.reduceLT, Nat.reduceEqDiff, Nat.reduceSub, Nat.reduceMul, Nat.reduceMod, Nat.reduceDiv, Nat.reducePow, UInt8.reduceToNat, Int.reduceEq, Int.reduceLT, Int.reduceLE, ↓reduceIte, Nat.reduceAdd, Int.reduceToNat, reduceCtorEq, Nat.reduceLeDiff, ↓A3I, e0]
    exact A6g 2 (by omega) (by simp) ⟨3, rfl, by omega, next 2 hno (by rw [Ne, A38]; rintro (h | h | h | h) <;> first | omega | exact e0 h.2.symm), rfl, by simp [forget, get]⟩
  ·subst h
   by_cases e0 : ([98, 108, 111, 98] : List UInt8) = s
   ·subst e0
    simp -dsimp (disch := first | assumption | omega | (simp only [A3b]; done) | (simp only [A3b]; omega)) only [↓A3g, A3c, A3e, A3f, eq_self, forall_const, Nat.reduceLT, Nat.reduceEqDiff, Nat.reduceSub, Nat.reduceMul, Nat.reduceMod, Nat.reduceDiv, Nat.reducePow, UInt8.reduceToNat, Int.reduceEq, Int.reduceLT, Int.reduceLE, ↓reduceIte, Nat.reduceAdd, Int.reduceToNat, reduceCtorEq, Nat.reduceLeDiff, ↓A3I]
    exact ⟨fun k h => (by rw [A38] at h; simp at h; rw [h]; rfl), fun h => absurd (A38.2 (by simp)) (h 3)⟩
   ·simp -dsimp (disch := first | assumption | omega | (simp only [A3b]; done) | (simp only [A3b]; omega)) only [↓A3g, A3c, A3e, A3f, eq_self, forall_const, Nat.reduceLT, Nat.reduceEqDiff, Nat.reduceSub, Nat.reduceMul, Nat.reduceMod, Nat.reduceDiv, Nat.reducePow, UInt8.reduceToNat, Int.reduceEq, Int.reduceLT, Int.reduceLE, ↓reduceIte, Nat.reduceAdd, Int.reduceToNat, reduceCtorEq, Nat.reduceLeDiff, ↓A3I, e0]
    exact A6g 1 (by omega) (by simp) ⟨4, rfl, by omega, next 3 hno (by rw [Ne, A38]; rintro (h | h | h | h) <;> first | omega | exact e0 h.2.symm), rfl, by simp [forget, get]⟩
  ·subst h
   by_cases e0 : ([116, 97, 103] : List UInt8) = s
   ·subst e0
    simp -dsimp (disch := first | assumption | omega | (simp only [A3b]; done) | (simp only [A3b]; omega)) only [↓A3g, A3c, A3e, A3f, eq_self, forall_const, Nat.reduceLT, Nat.reduceEqDiff, Nat.reduceSub, Nat.reduceMul, Nat.reduceMod, Nat.reduceDiv, Nat.reducePow, UInt8.reduceToNat, Int.reduceEq, Int.reduceLT, Int.reduceLE, ↓reduceIte, Nat.reduceAdd, Int.reduceToNat, reduceCtorEq, Nat.reduceLeDiff, ↓A3I]
    exact ⟨fun k h => (by rw [A38] at h; simp at h; rw [h]; rfl), fun h => absurd (A38.2 (by simp)) (h 4)⟩
   ·simp -dsimp (disch := first | assumption | omega | (simp only [A3b]; done) | (simp only [A3b]; omega)) only [↓A3g, A3c, A3e, A3f, eq_self, forall_const, Nat.reduceLT, Nat.reduceEqDiff, Nat.reduceSub, Nat.reduceMul, Nat.reduceMod, Nat.reduceDiv, Nat.reducePow, UInt8.reduceToNat, Int.reduceEq, Int.reduceLT, Int.reduceLE, ↓reduceIte, Nat.reduceAdd, Int.reduceToNat, reduceCtorEq, Nat.reduceLeDiff, ↓A3I, e0]
    exact A6g 0 (by omega) (by simp) ⟨5, rfl, by omega, next 4 hno (by rw [Ne, A38]; rintro (h | h | h | h) <;> first | omega | exact e0 h.2.symm), rfl, by simp [forget, get]⟩
  ·subst h
   simp -dsimp (disch := first | assumption | omega | (simp only [A3b]; done) | (simp only [A3b]; omega)) only [↓A3g, A3c, A3e, A3f, eq_self, forall_const, Nat.reduceLT, Nat.reduceEqDiff, Nat.reduceSub, Nat.reduceMul, Nat.reduceMod, Nat.reduceDiv, Nat.reducePow, UInt8.reduceToNat, Int.reduceEq, Int.reduceLT, Int.reduceLE, ↓reduceIte, Nat.reduceAdd, Int.reduceToNat, reduceCtorEq, Nat.reduceLeDiff, ↓A3I]
   exact ⟨fun k h => absurd h (by by_cases h5 : k < 5 <;> first | exact hno k h5 | (rw [A38]; omega)), fun _ => by trivial⟩
section
variable [A3k] [A3G] [A3S]
/-- A number in decimal, with no 0 ahead. -/
def A6K (s : List UInt8) : Option Nat := match pU s with
 | some n => if Lib.decDigits n = s then some n else none
 | none => none
theorem Br7 (s : List UInt8) (hs : s.length ≤ 1000000) : A4p Tryz.prog 34 [ts s] (fun r => (∀ n, A6K s = some n → r = .tup [i64 (n : Int), tb true]) ∧ (A6K s = none → ∃ z, r = .tup [i64 z, tb false])) := by
 refine A3p.toPureV (BfM (by simp) ?_)
 simp -dsimp (disch := first | assumption | omega | (simp only [A3b]; done) | (simp only [A3b]; omega)) only [↓A3g, A3c, A3e, A3f, eq_self, forall_const, Nat.reduceLT, Nat.reduceEqDiff, Nat.reduceSub, Nat.reduceMul, Nat.reduceMod, Nat.reduceDiv, Nat.reducePow, UInt8.reduceToNat, Int.reduceEq, Int.reduceLT, Int.reduceLE, ↓reduceIte, Nat.reduceAdd, Int.reduceToNat, reduceCtorEq, Nat.reduceLeDiff, ↓A6L]
 refine (BnI s hs).calls rfl fun r hr => ?_
 cases hp : pU s with
 | none =>
  obtain ⟨m, rfl⟩ := hr.2 hp
  have hd : A6K s = none := by unfold A6K; rw [hp]
  simp -dsimp (disch := first | assumption | omega | (simp only [A3b]; done) | (simp only [A3b]; omega)) only [↓A3g, A3c, A3e, A3f, eq_self, forall_const, Nat.reduceLT, Nat.reduceEqDiff, Nat.reduceSub, Nat.reduceMul, Nat.reduceMod, Nat.reduceDiv, Nat.reducePow, UInt8.reduceToNat, Int.reduceEq, Int.reduceLT, Int.reduceLE, ↓reduceIte, Nat.reduceAdd, Int.reduceToNat, reduceCtorEq, Nat.reduceLeDiff, ↓A6L]
  rw [hd]
  exact ⟨fun n h => (by cases h), fun _ => ⟨_, rfl⟩⟩
 | some n =>
  rw [hr.1 n hp]
  have hn : n < 4611686018427387904 := by
   unfold pU at hp
   split at hp
   ·rename_i h; cases hp; exact h.2.2
   ·cases hp
  have hw : IntKind.i64.wrap (n : Int) = (n : Int) := A5X (by omega) (by omega)
  simp -dsimp (disch := first | assumption | omega | (simp only [A3b]; done) | (simp only [A3b]; omega)) only [↓A3g, A3c, A3e, A3f, eq_self, forall_const, Nat.reduceLT, Nat.reduceEqDiff, Nat.reduceSub, Nat.reduceMul, Nat.reduceMod, Nat.reduceDiv, Nat.reducePow, UInt8.reduceToNat, Int.reduceEq, Int.reduceLT, Int.reduceLE, ↓reduceIte, Nat.reduceAdd, Int.reduceToNat, reduceCtorEq, Nat.reduceLeDiff, ↓A6L, hw]
  refine (Bl9 n (by omega)).calls rfl fun r hr => ?_
  subst hr
  simp -dsimp (disch := first | assumption | omega | (simp only [A3b]; done) | (simp only [A3b]; omega)) only [↓A3g, A3c, A3e, A3f, eq_self, forall_const, Nat.reduceLT, Nat.reduceEqDiff, Nat.reduceSub, Nat.reduceMul, Nat.reduceMod, Nat.reduceDiv, Nat.reducePow, UInt8.reduceToNat, Int.reduceEq, Int.reduceLT, Int.reduceLE, ↓reduceIte, Nat.reduceAdd, Int.reduceToNat, reduceCtorEq, Nat.reduceLeDiff, ↓A6L, hw]
  unfold A6K
  rw [hp]
  simp only
  by_cases hs2 : Lib.decDigits n = s
  ·rw [if_pos hs2, decide_eq_true hs2]
   exact ⟨fun m h => (by cases h; rfl), fun h => (by cases h)⟩
  ·rw [if_neg hs2, decide_eq_false hs2]
   exact ⟨fun m h => (by cases h), fun _ => ⟨_, rfl⟩⟩
end
end Go.Proofs.YtmlompedpahkjaaGreatDoor


namespace Go.Proofs.YtmlompedpahkjaaGreatDoor
open Go.RowKit
variable [A4e]
set_option linter.unusedSectionVars false
set_option linter.unusedVariables false
set_option linter.unusedSimpArgs false

theorem BoZ {k : Nat} (hk : k < 10) : Bhz (UInt8.ofNat (48 + k)) = true ∧ (UInt8.ofNat (48 + k)).toNat - 48 = k := by
 have : (UInt8.ofNat (48 + k)).toNat = 48 + k := by rw [UInt8.toNat_ofNat']; omega
 unfold Bhz
 rw [this]
 exact ⟨by simp; omega, by omega⟩
theorem Bmu (n : Nat) (c : UInt8) : Bk9 n [c] = n * 10 + (c.toNat - 48) := rfl
theorem Bmn : ∀ n : Nat, (Lib.decDigits n).all Bhz = true ∧ Bk9 0 (Lib.decDigits n) = n := by
 intro n
 induction n using Nat.strongRecOn with
 | _ n ih =>
  by_cases h : n < 10
  ·obtain ⟨h1, h2⟩ := BoZ h
   rw [Lib.decDigits_one h, Bmu, h2, List.all_cons, h1]
   exact ⟨rfl, by omega⟩
  ·obtain ⟨h1, h2⟩ := ih (n / 10) (by omega)
   obtain ⟨h3, h4⟩ := BoZ (k := n % 10) (by omega)
   rw [Lib.decDigits.eq_1 n, dif_neg h, List.all_append, Bg4, Bmu, h1, h2, h4, List.all_cons, h3]
   exact ⟨rfl, by omega⟩
theorem Bzv (n : Nat) : Lib.decDigits n ≠ [] := by
 rw [Lib.decDigits.eq_1]
 split <;> simp
theorem BnJ {n : Nat} (h : n < 4611686018427387904) : A6K (Lib.decDigits n) = some n := by
 obtain ⟨h1, h2⟩ := Bmn n
 have : pU (Lib.decDigits n) = some n := by
  unfold pU
  rw [if_pos ⟨Bzv n, h1, by rw [h2]; exact h⟩, h2]
 unfold A6K
 rw [this]
 simp
theorem Bo8 {s : List UInt8} {n : Nat} (h : A6K s = some n) : Lib.decDigits n = s := by
 unfold A6K at h
 split at h
 ·split at h
  ·rename_i h1; cases h; exact h1
  ·cases h
 ·cases h
theorem Be1 {c : UInt8} : ∀ {l m : List UInt8}, ¬ c ∈ l → A9v c (l ++ c :: m) = some l.length
 | [], m, _ => by simp [A9v]
 | b :: l, m, h => by
  rw [List.cons_append, A9v, if_neg (fun e => h (by simp [e])), Be1 (fun hm => h (List.mem_cons_of_mem _ hm))]
  simp
theorem Bws {c : UInt8} (hc : Bhz c = false) (n : Nat) : ¬ c ∈ Lib.decDigits n := fun h => by
 have := List.all_eq_true.1 (Bmn n).1 c h
 rw [hc] at this; cases this
theorem Bo6 {k : Int} {n : List UInt8} (h : A6a k = some n) : ¬ (0 : UInt8) ∈ n ∧ ¬ (32 : UInt8) ∈ n := by
 rcases A38.1 h with ⟨_, rfl⟩ | ⟨_, rfl⟩ | ⟨_, rfl⟩ | ⟨_, rfl⟩ <;> decide
theorem Bi0 {k : Int} {d b : List UInt8} : A9O k d = .ok b ↔ ∃ n, A6a k = some n ∧ d.length ≤ 100000 ∧ b = n ++ 32 :: Lib.decDigits d.length ++ 0 :: d := by
 unfold A9O
 constructor
 ·intro h
  split at h
  ·cases h
  ·rename_i n hn
   split at h
   ·cases h; exact ⟨n, hn, by assumption, rfl⟩
   ·cases h
 ·rintro ⟨n, hn, hl, rfl⟩
  rw [hn]
  simp only
  rw [if_pos hl]
/-- What is found in a header that is one. -/
theorem BhV {k : Int} {d b : List UInt8} (h : A9O k d = .ok b) : ∃ i j, A9v 0 b = some i ∧ b.drop (i + 1) = d ∧ A9v 32 (b.take i) = some j ∧ A6a k = some ((b.take i).take j) ∧ A6K ((b.take i).drop (j + 1)) = some d.length ∧ d.length ≤ 100000 := by
 obtain ⟨n, hn, hl, rfl⟩ := Bi0.1 h
 obtain ⟨h0, h32⟩ := Bo6 hn
 have z0 : ¬ (0 : UInt8) ∈ n ++ 32 :: Lib.decDigits d.length := by
  rw [List.mem_append, List.mem_cons]
  rintro (h | h | h)
  ·exact h0 h
  ·cases h
  ·exact Bws (by rfl) _ h
 refine ⟨(n ++ 32 :: Lib.decDigits d.length).length, n.length, Be1 z0, ?_, ?_, ?_, ?_, hl⟩
 ·rw [List.drop_append, List.drop_eq_nil_of_le (by omega), show (n ++ 32 :: Lib.decDigits d.length).length + 1 - (n ++ 32 :: Lib.decDigits d.length).length = 1 by omega]; rfl
 ·rw [List.take_left]; exact Be1 h32
 ·rw [List.take_left, List.take_left]; exact hn
 ·rw [List.take_left, List.drop_append, List.drop_eq_nil_of_le (by omega), show n.length + 1 - n.length = 1 by omega]
  exact BnJ (by omega)
theorem BwF {k : Int} {b : List UInt8} {i j : Nat} (h1 : A9v 0 b = some i) (h2 : A9v 32 (b.take i) = some j) (h3 : A6a k = some ((b.take i).take j)) (h4 : A6K ((b.take i).drop (j + 1)) = some (b.drop (i + 1)).length) (h5 : (b.drop (i + 1)).length ≤ 100000) : A9O k (b.drop (i + 1)) = .ok b := by
 rw [Bi0]
 refine ⟨_, h3, h5, ?_⟩
 rw [Bo8 h4]
 obtain ⟨a1, a2, _⟩ := Ba4 h1
 obtain ⟨c1, c2, _⟩ := Ba4 h2
 have e : ∀ {l : List UInt8} {i : Nat} {c : UInt8}, i < l.length → l[i]? = some c → l = l.take i ++ c :: l.drop (i + 1) := fun {l i c} h h' => by
  obtain ⟨_, h'⟩ := List.getElem?_eq_some_iff.1 h'
  conv => lhs; rw [← List.take_append_drop i l, List.drop_eq_getElem_cons h, h']
 rw [← e c1 c2]
 exact e a1 a2
theorem Byq {l : List UInt8} (hlen : l.length ≤ 1000000) {H : List Ob} {K : TV → List Ob → Prop} (h0 : l = [] → K (.val (.slice none 0 0)) H) (h1 : K (.os 1 H.length 1 [] 0 l.length l.length) (H ++ [.obj 1 (.arr l.length 1 (l.map by8))])) :
  A3p Tryz.prog 35 [slB l] H K := by
 refine Bh0 (by simp) ?_
 by_cases hn : l = []
 ·subst hn
  simp -dsimp (disch := first | assumption | omega | (simp only [A3b]; done) | (simp only [A3b]; omega)) only [↓A3g, A3c, A3e, A3f, eq_self, forall_const, Nat.reduceLT, Nat.reduceEqDiff, Nat.reduceSub, Nat.reduceMul, Nat.reduceMod, Nat.reduceDiv, Nat.reducePow, UInt8.reduceToNat, Int.reduceEq, Int.reduceLT, Int.reduceLE, ↓reduceIte, Nat.reduceAdd, Int.reduceToNat, reduceCtorEq, Nat.reduceLeDiff, ↓A8X]
  refine Blf ?_ ?_
  ·simp -dsimp (disch := first | assumption | omega | (simp only [A3b]; done) | (simp only [A3b]; omega)) only [↓A3g, A3c, A3e, A3f, eq_self, forall_const, Nat.reduceLT, Nat.reduceEqDiff, Nat.reduceSub, Nat.reduceMul, Nat.reduceMod, Nat.reduceDiv, Nat.reducePow, UInt8.reduceToNat, Int.reduceEq, Int.reduceLT, Int.reduceLE, ↓reduceIte, Nat.reduceAdd, Int.reduceToNat, reduceCtorEq, Nat.reduceLeDiff, ↓A8X]
   exact h0 rfl
  ·simp -dsimp (disch := first | assumption | omega | (simp only [A3b]; done) | (simp only [A3b]; omega)) only [↓A3g, A3c, A3e, A3f, eq_self, forall_const, Nat.reduceLT, Nat.reduceEqDiff, Nat.reduceSub, Nat.reduceMul, Nat.reduceMod, Nat.reduceDiv, Nat.reducePow, UInt8.reduceToNat, Int.reduceEq, Int.reduceLT, Int.reduceLE, ↓reduceIte, Nat.reduceAdd, Int.reduceToNat, reduceCtorEq, Nat.reduceLeDiff, ↓A8X]
   simpa using h1
 ·have hn0 : l.length ≠ 0 := fun e => hn (List.length_eq_zero_iff.1 e)
  simp -dsimp (disch := first | assumption | omega | (simp only [A3b]; done) | (simp only [A3b]; omega)) only [↓A3g, A3c, A3e, A3f, eq_self, forall_const, Nat.reduceLT, Nat.reduceEqDiff, Nat.reduceSub, Nat.reduceMul, Nat.reduceMod, Nat.reduceDiv, Nat.reducePow, UInt8.reduceToNat, Int.reduceEq, Int.reduceLT, Int.reduceLE, ↓reduceIte, Nat.reduceAdd, Int.reduceToNat, reduceCtorEq, Nat.reduceLeDiff, ↓A8X]
  simpa using h1
variable [A3k] [A3G] [A3S] [A3n]
def BpE (b : List UInt8) (r : TV) : Prop := (∀ k d, A9O k d = .ok b → ∃ y, (y = slB d ∨ (d = [] ∧ y = .val (.slice none 0 0))) ∧ r = .tup [.agg [i64 k, y], .val .nilIface]) ∧ ((∀ k d, A9O k d ≠ .ok b) → r = .tup [.agg [i64 ((0 : Nat) : Int), .val (.slice none 0 0)], Bs6 ((24 : Nat) : Int)])
theorem Byk : (∀ y : TV, y ∈ ([] : List TV) → BlB y) = True := eq_true (fun y h => by cases h)
theorem BpH : (if (none : Option Addr).isNone = true then some ([] : List TV) else none) = some [] := by simp
abbrev BuI : TV := .tup [.agg [i64 ((0 : Nat) : Int), .val (.slice none 0 0)], Bs6 ((24 : Nat) : Int)]
theorem BmO {ok is : Bool} {nm sz d : List UInt8} {Z D : TV} (hZ : Z = slB sz ∨ (Z = .val (.slice none 0 0) ∧ sz = [])) (hD : D = slB d ∨ (D = .val (.slice none 0 0) ∧ d = [])) (hoD : ok = true → D = slB d) (hsz : sz.length ≤ 1000000) (hd : d.length ≤ 1000000) {H : List Ob} (h0 : H[0]? = some (.obj 0 (.agg [i64 ((0 : Nat) : Int), .val (.slice none 0 0)]))) {R : TV → Prop}
  (hyes : ok = true → is = true → ∀ k, A6a k = some nm → A6K sz = some d.length → d.length ≤ 100000 → ∀ y, (y = slB d ∨ (d = [] ∧ y = .val (.slice none 0 0))) → R (.tup [.agg [i64 k, y], .val .nilIface]))
  (hno : ¬ (ok = true ∧ is = true ∧ (∃ k, A6a k = some nm) ∧ A6K sz = some d.length ∧ d.length ≤ 100000) → R BuI) :
  vwp Tryz.prog A7O (Bjj A6f fun x H' => A3Y (frs H' x) R) [(2, .op 0 0 []), (5, D), (6, tb ok), (7, slB nm), (8, Z), (9, tb is)] H := by
 have l0 := (List.getElem?_eq_some_iff.1 h0).1
 have hat : ∀ o : Ob, (H.set 0 o)[0]? = some o := fun o => List.getElem?_set_self l0
 simp -dsimp (disch := first | assumption | omega | (simp only [A3b]; done) | (simp only [A3b]; omega)) only [↓A3g, A3c, A3e, A3f, eq_self, forall_const, Nat.reduceLT, Nat.reduceEqDiff, Nat.reduceSub, Nat.reduceMul, Nat.reduceMod, Nat.reduceDiv, Nat.reducePow, UInt8.reduceToNat, Int.reduceEq, Int.reduceLT, Int.reduceLE, ↓reduceIte, Nat.reduceAdd, Int.reduceToNat, reduceCtorEq, Nat.reduceLeDiff, ↓Bdm]
 obtain ⟨kk, known, hkk, hkn⟩ : ∃ (kk : Int) (known : Bool), (∀ r, ((∀ k, A6a k = some nm → r = TV.tup [i64 k, tb true]) ∧ ((∀ k, A6a k ≠ some nm) → r = .tup [i64 ((0 : Nat) : Int), tb false])) → r = .tup [i64 kk, tb known]) ∧ ((known = true ∧ A6a kk = some nm) ∨ (known = false ∧ ∀ k, A6a k ≠ some nm)) := by
  by_cases h : ∃ k, A6a k = some nm
  ·obtain ⟨k, hk⟩ := h
   exact ⟨k, true, fun r hr => hr.1 k hk, .inl ⟨rfl, hk⟩⟩
  ·have h' : ∀ k, A6a k ≠ some nm := fun k hk => h ⟨k, hk⟩
   exact ⟨0, false, fun r hr => hr.2 h', .inr ⟨rfl, h'⟩⟩
 refine (Bus nm).calls rfl fun r hr => ?_
 rw [hkk r hr]
 clear hr hkk
 have hdn : ∃ (z : Int) (good : Bool), (∀ r, ((∀ n, A6K sz = some n → r = TV.tup [i64 (n : Int), tb true]) ∧ (A6K sz = none → ∃ z, r = .tup [i64 z, tb false])) → ∃ z, r = .tup [i64 z, tb good] ∧ (good = true → ∃ n : Nat, z = n ∧ A6K sz = some n)) ∧ (good = false → A6K sz = none) := by
  cases h : A6K sz with
  | none => exact ⟨0, false, fun r hr => by obtain ⟨z, hz⟩ := hr.2 rfl; exact ⟨z, hz, fun h => by cases h⟩, fun _ => rfl⟩
  | some n => exact ⟨n, true, fun r hr => ⟨n, hr.1 n rfl, fun _ => ⟨n, rfl, rfl⟩⟩, fun h => by cases h⟩
 obtain ⟨_, good, hg1, hg2⟩ := hdn
 have hcall : ∀ {K : TV → List Ob → Prop}, (∀ z, (good = true → ∃ n : Nat, z = (n : Int) ∧ A6K sz = some n) → K (.tup [i64 z, tb good]) H) → VC Tryz.prog 34 [ts sz] H K := fun {K} hK => by
  refine (Br7 sz hsz).calls rfl fun r hr => ?_
  obtain ⟨z, rfl, hz⟩ := hg1 r hr
  exact hK z hz
 have hk2 : vwp Tryz.prog A7z (Bjj A6f fun x H' => A3Y (frs H' x) R) [(2, .op 0 0 []), (5, D), (6, tb ok), (8, Z), (9, tb is), (10, i64 kk), (11, tb known)] H := by
  have step : ∀ z, (good = true → ∃ n : Nat, z = (n : Int) ∧ A6K sz = some n) → vwp Tryz.prog A7J (Bjj A6f fun x H' => A3Y (frs H' x) R) [(2, .op 0 0 []), (5, D), (6, tb ok), (9, tb is), (10, i64 kk), (11, tb known), (12, i64 z), (13, tb good)] H := by
   intro z hz
   cases ok with
   | false =>
    simp -dsimp (disch := first | assumption | omega | (simp only [A3b]; done) | (simp only [A3b]; omega)) only [↓A3g, A3c, A3e, A3f, eq_self, forall_const, Nat.reduceLT, Nat.reduceEqDiff, Nat.reduceSub, Nat.reduceMul, Nat.reduceMod, Nat.reduceDiv, Nat.reducePow, UInt8.reduceToNat, Int.reduceEq, Int.reduceLT, Int.reduceLE, ↓reduceIte, Nat.reduceAdd, Int.reduceToNat, reduceCtorEq, Nat.reduceLeDiff, ↓A3Z, ↓A3X, h0, hat]
    exact hno (fun h => by cases h.1)
   | true =>
    have hDs := hoD rfl
    subst hDs
    cases is with
    | false =>
     simp -dsimp (disch := first | assumption | omega | (simp only [A3b]; done) | (simp only [A3b]; omega)) only [↓A3g, A3c, A3e, A3f, eq_self, forall_const, Nat.reduceLT, Nat.reduceEqDiff, Nat.reduceSub, Nat.reduceMul, Nat.reduceMod, Nat.reduceDiv, Nat.reducePow, UInt8.reduceToNat, Int.reduceEq, Int.reduceLT, Int.reduceLE, ↓reduceIte, Nat.reduceAdd, Int.reduceToNat, reduceCtorEq, Nat.reduceLeDiff, ↓A3Z, ↓A3X, h0, hat]
     exact hno (fun h => by cases h.2.1)
    | true =>
     rcases hkn with ⟨rfl, hkn⟩ | ⟨rfl, hkn⟩
     case inr =>
      simp -dsimp (disch := first | assumption | omega | (simp only [A3b]; done) | (simp only [A3b]; omega)) only [↓A3g, A3c, A3e, A3f, eq_self, forall_const, Nat.reduceLT, Nat.reduceEqDiff, Nat.reduceSub, Nat.reduceMul, Nat.reduceMod, Nat.reduceDiv, Nat.reducePow, UInt8.reduceToNat, Int.reduceEq, Int.reduceLT, Int.reduceLE, ↓reduceIte, Nat.reduceAdd, Int.reduceToNat, reduceCtorEq, Nat.reduceLeDiff, ↓A3Z, ↓A3X, h0, hat]
      exact hno (fun h => by obtain ⟨k, hk⟩ := h.2.2.1; exact hkn k hk)
     cases good with
     | false =>
      simp -dsimp (disch := first | assumption | omega | (simp only [A3b]; done) | (simp only [A3b]; omega)) only [↓A3g, A3c, A3e, A3f, eq_self, forall_const, Nat.reduceLT, Nat.reduceEqDiff, Nat.reduceSub, Nat.reduceMul, Nat.reduceMod, Nat.reduceDiv, Nat.reducePow, UInt8.reduceToNat, Int.reduceEq, Int.reduceLT, Int.reduceLE, ↓reduceIte, Nat.reduceAdd, Int.reduceToNat, reduceCtorEq, Nat.reduceLeDiff, ↓A3Z, ↓A3X, h0, hat]
      exact hno (fun h => by rw [hg2 rfl] at h; cases h.2.2.2.1)
     | true =>
      obtain ⟨n, rfl, hn⟩ := hz rfl
      by_cases hnd : n = d.length
      case neg =>
       simp -dsimp (disch := first | assumption | omega | (simp only [A3b]; done) | (simp only [A3b]; omega)) only [↓A3g, A3c, A3e, A3f, eq_self, forall_const, Nat.reduceLT, Nat.reduceEqDiff, Nat.reduceSub, Nat.reduceMul, Nat.reduceMod, Nat.reduceDiv, Nat.reducePow, UInt8.reduceToNat, Int.reduceEq, Int.reduceLT, Int.reduceLE, ↓reduceIte, Nat.reduceAdd, Int.reduceToNat, reduceCtorEq, Nat.reduceLeDiff, ↓A3Z, ↓A3X, h0, hat]
       exact hno (fun h => by rw [hn] at h; exact hnd (Option.some.inj h.2.2.2.1))
      subst hnd
      by_cases hl : d.length ≤ 100000
      case neg =>
       simp -dsimp (disch := first | assumption | omega | (simp only [A3b]; done) | (simp only [A3b]; omega)) only [↓A3g, A3c, A3e, A3f, eq_self, forall_const, Nat.reduceLT, Nat.reduceEqDiff, Nat.reduceSub, Nat.reduceMul, Nat.reduceMod, Nat.reduceDiv, Nat.reducePow, UInt8.reduceToNat, Int.reduceEq, Int.reduceLT, Int.reduceLE, ↓reduceIte, Nat.reduceAdd, Int.reduceToNat, reduceCtorEq, Nat.reduceLeDiff, ↓A3Z, ↓A3X, h0, hat]
       exact hno (fun h => hl h.2.2.2.2)
      simp -dsimp (disch := first | assumption | omega | (simp only [A3b]; done) | (simp only [A3b]; omega)) only [↓A3g, A3c, A3e, A3f, eq_self, forall_const, Nat.reduceLT, Nat.reduceEqDiff, Nat.reduceSub, Nat.reduceMul, Nat.reduceMod, Nat.reduceDiv, Nat.reducePow, UInt8.reduceToNat, Int.reduceEq, Int.reduceLT, Int.reduceLE, ↓reduceIte, Nat.reduceAdd, Int.reduceToNat, reduceCtorEq, Nat.reduceLeDiff, ↓A3Z, ↓A3X, h0, hat]
      refine BgW (Byq hd (fun hd0 => ?_) ?_)
      ·have := hyes rfl rfl kk hkn hn hl _ (.inr ⟨hd0, rfl⟩)
       simp -dsimp (disch := first | assumption | omega | (simp only [A3b]; done) | (simp only [A3b]; omega)) only [↓A3g, A3c, A3e, A3f, eq_self, forall_const, Nat.reduceLT, Nat.reduceEqDiff, Nat.reduceSub, Nat.reduceMul, Nat.reduceMod, Nat.reduceDiv, Nat.reducePow, UInt8.reduceToNat, Int.reduceEq, Int.reduceLT, Int.reduceLE, ↓reduceIte, Nat.reduceAdd, Int.reduceToNat, reduceCtorEq, Nat.reduceLeDiff, ↓A3X, h0, hat]
       exact this
      ·have := hyes rfl rfl kk hkn hn hl _ (.inl rfl)
       have htk : (d.map by8).take d.length = d.map by8 := List.take_of_length_le (by simp)
       have hlow : ∀ o : Ob, (H ++ [o])[0]? = H[0]? := fun o => List.getElem?_append_left l0
       simp -dsimp (disch := first | assumption | omega | (simp only [A3b]; done) | (simp only [A3b]; omega)) only [↓A3g, A3c, A3e, A3f, eq_self, forall_const, Nat.reduceLT, Nat.reduceEqDiff, Nat.reduceSub, Nat.reduceMul, Nat.reduceMod, Nat.reduceDiv, Nat.reducePow, UInt8.reduceToNat, Int.reduceEq, Int.reduceLT, Int.reduceLE, ↓reduceIte, Nat.reduceAdd, Int.reduceToNat, reduceCtorEq, Nat.reduceLeDiff, ↓A3X, h0, hat, hlow, htk]
       exact this
  rcases hZ with rfl | ⟨rfl, rfl⟩
  ·simp -dsimp (disch := first | assumption | omega | (simp only [A3b]; done) | (simp only [A3b]; omega)) only [↓A3g, A3c, A3e, A3f, eq_self, forall_const, Nat.reduceLT, Nat.reduceEqDiff, Nat.reduceSub, Nat.reduceMul, Nat.reduceMod, Nat.reduceDiv, Nat.reducePow, UInt8.reduceToNat, Int.reduceEq, Int.reduceLT, Int.reduceLE, ↓reduceIte, Nat.reduceAdd, Int.reduceToNat, reduceCtorEq, Nat.reduceLeDiff, ↓A8S]
   refine hcall fun z hz => ?_
   simp -dsimp (disch := first | assumption | omega | (simp only [A3b]; done) | (simp only [A3b]; omega)) only [↓A3g, A3c, A3e, A3f, eq_self, forall_const, Nat.reduceLT, Nat.reduceEqDiff, Nat.reduceSub, Nat.reduceMul, Nat.reduceMod, Nat.reduceDiv, Nat.reducePow, UInt8.reduceToNat, Int.reduceEq, Int.reduceLT, Int.reduceLE, ↓reduceIte, Nat.reduceAdd, Int.reduceToNat, reduceCtorEq, Nat.reduceLeDiff]
   exact step z hz
  ·simp -dsimp (disch := first | assumption | omega | (simp only [A3b]; done) | (simp only [A3b]; omega)) only [↓A3g, A3c, A3e, A3f, eq_self, forall_const, Nat.reduceLT, Nat.reduceEqDiff, Nat.reduceSub, Nat.reduceMul, Nat.reduceMod, Nat.reduceDiv, Nat.reducePow, UInt8.reduceToNat, Int.reduceEq, Int.reduceLT, Int.reduceLE, ↓reduceIte, Nat.reduceAdd, Int.reduceToNat, reduceCtorEq, Nat.reduceLeDiff, ↓A8S, BpH, Byk]
   refine hcall fun z hz => ?_
   simp -dsimp (disch := first | assumption | omega | (simp only [A3b]; done) | (simp only [A3b]; omega)) only [↓A3g, A3c, A3e, A3f, eq_self, forall_const, Nat.reduceLT, Nat.reduceEqDiff, Nat.reduceSub, Nat.reduceMul, Nat.reduceMod, Nat.reduceDiv, Nat.reducePow, UInt8.reduceToNat, Int.reduceEq, Int.reduceLT, Int.reduceLE, ↓reduceIte, Nat.reduceAdd, Int.reduceToNat, reduceCtorEq, Nat.reduceLeDiff]
   exact step z hz
 simp -dsimp (disch := first | assumption | omega | (simp only [A3b]; done) | (simp only [A3b]; omega)) only [↓A3g, A3c, A3e, A3f, eq_self, forall_const, Nat.reduceLT, Nat.reduceEqDiff, Nat.reduceSub, Nat.reduceMul, Nat.reduceMod, Nat.reduceDiv, Nat.reducePow, UInt8.reduceToNat, Int.reduceEq, Int.reduceLT, Int.reduceLE, ↓reduceIte, Nat.reduceAdd, Int.reduceToNat, reduceCtorEq, Nat.reduceLeDiff]
 exact hk2
theorem BuT (b : List UInt8) (hb : b.length ≤ 1000000) : A9X Tryz.prog 21 [slB b] (BpE b) := by
 refine A3p.toFreshV (BgQ (by simp) ?_)
 have one_r : ∀ z a : TV, (List.replicate 1 z).set 0 a = [a] := fun z a => by simp
 have hno : ∀ k d, A9O k d = .ok b → ∃ i j, A9v 0 b = some i ∧ b.drop (i + 1) = d ∧ A9v 32 (b.take i) = some j ∧ A6a k = some ((b.take i).take j) ∧ A6K ((b.take i).drop (j + 1)) = some d.length ∧ d.length ≤ 100000 := fun k d h => BhV h
 have hsp : ([TV.val (.int .u8 ((0 : Nat) : Int))] : List TV) = [(0 : UInt8)].map by8 := rfl
 have hsp2 : ([TV.val (.int .u8 ((32 : Nat) : Int))] : List TV) = [(32 : UInt8)].map by8 := rfl
 simp -dsimp (disch := first | assumption | omega | (simp only [A3b]; done) | (simp only [A3b]; omega)) only [↓A3g, A3c, A3e, A3f, eq_self, forall_const, Nat.reduceLT, Nat.reduceEqDiff, Nat.reduceSub, Nat.reduceMul, Nat.reduceMod, Nat.reduceDiv, Nat.reducePow, UInt8.reduceToNat, Int.reduceEq, Int.reduceLT, Int.reduceLE, ↓reduceIte, Nat.reduceAdd, Int.reduceToNat, reduceCtorEq, Nat.reduceLeDiff, ↓Bgc, ↓Bdj, one_r]
 refine Bqt (by rfl) (by rfl) (by simp) ?_
 simp -dsimp (disch := first | assumption | omega | (simp only [A3b]; done) | (simp only [A3b]; omega)) only [↓A3g, A3c, A3e, A3f, eq_self, forall_const, Nat.reduceLT, Nat.reduceEqDiff, Nat.reduceSub, Nat.reduceMul, Nat.reduceMod, Nat.reduceDiv, Nat.reducePow, UInt8.reduceToNat, Int.reduceEq, Int.reduceLT, Int.reduceLE, ↓reduceIte, Nat.reduceAdd, Int.reduceToNat, reduceCtorEq, Nat.reduceLeDiff, BtI]
 rw [hsp]
 refine (BBa b 0 hb).calls rfl fun r hr => ?_
 cases hA : A9v 0 b with
 | none =>
  rw [hr.2 hA]
  clear hr
  simp -dsimp (disch := first | assumption | omega | (simp only [A3b]; done) | (simp only [A3b]; omega)) only [↓A3g, A3c, A3e, A3f, eq_self, forall_const, Nat.reduceLT, Nat.reduceEqDiff, Nat.reduceSub, Nat.reduceMul, Nat.reduceMod, Nat.reduceDiv, Nat.reducePow, UInt8.reduceToNat, Int.reduceEq, Int.reduceLT, Int.reduceLE, ↓reduceIte, Nat.reduceAdd, Int.reduceToNat, reduceCtorEq, Nat.reduceLeDiff, ↓A8L, one_r]
  refine Bqt (by rfl) (by rfl) (by simp) ?_
  simp -dsimp (disch := first | assumption | omega | (simp only [A3b]; done) | (simp only [A3b]; omega)) only [↓A3g, A3c, A3e, A3f, eq_self, forall_const, Nat.reduceLT, Nat.reduceEqDiff, Nat.reduceSub, Nat.reduceMul, Nat.reduceMod, Nat.reduceDiv, Nat.reducePow, UInt8.reduceToNat, Int.reduceEq, Int.reduceLT, Int.reduceLE, ↓reduceIte, Nat.reduceAdd, Int.reduceToNat, reduceCtorEq, Nat.reduceLeDiff, BtI]
  rw [hsp2]
  refine (BBa b 32 hb).calls rfl fun r hr => ?_
  have bad : BpE b BuI := ⟨fun k d h => (by obtain ⟨i, _, h1, _⟩ := hno k d h; rw [hA] at h1; cases h1), fun _ => rfl⟩
  cases hB : A9v 32 b with
  | none =>
   rw [hr.2 hB]
   simp -dsimp (disch := first | assumption | omega | (simp only [A3b]; done) | (simp only [A3b]; omega)) only [↓A3g, A3c, A3e, A3f, eq_self, forall_const, Nat.reduceLT, Nat.reduceEqDiff, Nat.reduceSub, Nat.reduceMul, Nat.reduceMod, Nat.reduceDiv, Nat.reducePow, UInt8.reduceToNat, Int.reduceEq, Int.reduceLT, Int.reduceLE, ↓reduceIte, Nat.reduceAdd, Int.reduceToNat, reduceCtorEq, Nat.reduceLeDiff]
   exact BmO (sz := []) (d := []) (.inr ⟨rfl, rfl⟩) (.inr ⟨rfl, rfl⟩) (fun h => by cases h) (by simp) (by simp) rfl (fun h => by cases h) fun _ => bad
  | some j =>
   rw [hr.1 j hB]
   simp -dsimp (disch := first | assumption | omega | (simp only [A3b]; done) | (simp only [A3b]; omega)) only [↓A3g, A3c, A3e, A3f, eq_self, forall_const, Nat.reduceLT, Nat.reduceEqDiff, Nat.reduceSub, Nat.reduceMul, Nat.reduceMod, Nat.reduceDiv, Nat.reducePow, UInt8.reduceToNat, Int.reduceEq, Int.reduceLT, Int.reduceLE, ↓reduceIte, Nat.reduceAdd, Int.reduceToNat, reduceCtorEq, Nat.reduceLeDiff]
   exact BmO (sz := b.drop (j + 1)) (d := []) (.inl rfl) (.inr ⟨rfl, rfl⟩) (fun h => by cases h) (by simp; omega) (by simp) rfl (fun h => by cases h) fun _ => bad
 | some i =>
  rw [hr.1 i hA]
  clear hr
  simp -dsimp (disch := first | assumption | omega | (simp only [A3b]; done) | (simp only [A3b]; omega)) only [↓A3g, A3c, A3e, A3f, eq_self, forall_const, Nat.reduceLT, Nat.reduceEqDiff, Nat.reduceSub, Nat.reduceMul, Nat.reduceMod, Nat.reduceDiv, Nat.reducePow, UInt8.reduceToNat, Int.reduceEq, Int.reduceLT, Int.reduceLE, ↓reduceIte, Nat.reduceAdd, Int.reduceToNat, reduceCtorEq, Nat.reduceLeDiff, ↓A8L, one_r]
  refine Bqt (by rfl) (by rfl) (by simp) ?_
  simp -dsimp (disch := first | assumption | omega | (simp only [A3b]; done) | (simp only [A3b]; omega)) only [↓A3g, A3c, A3e, A3f, eq_self, forall_const, Nat.reduceLT, Nat.reduceEqDiff, Nat.reduceSub, Nat.reduceMul, Nat.reduceMod, Nat.reduceDiv, Nat.reducePow, UInt8.reduceToNat, Int.reduceEq, Int.reduceLT, Int.reduceLE, ↓reduceIte, Nat.reduceAdd, Int.reduceToNat, reduceCtorEq, Nat.reduceLeDiff, BtI]
  rw [hsp2]
  refine (BBa (b.take i) 32 (by simp; omega)).calls rfl fun r hr => ?_
  cases hB : A9v 32 (b.take i) with
  | none =>
   rw [hr.2 hB]
   have bad : BpE b BuI := ⟨fun k d h => (by obtain ⟨i', j, h1, _, h2, _⟩ := hno k d h; rw [hA] at h1; cases h1; rw [hB] at h2; cases h2), fun _ => rfl⟩
   simp -dsimp (disch := first | assumption | omega | (simp only [A3b]; done) | (simp only [A3b]; omega)) only [↓A3g, A3c, A3e, A3f, eq_self, forall_const, Nat.reduceLT, Nat.reduceEqDiff, Nat.reduceSub, Nat.reduceMul, Nat.reduceMod, Nat.reduceDiv, Nat.reducePow, UInt8.reduceToNat, Int.reduceEq, Int.reduceLT, Int.reduceLE, ↓reduceIte, Nat.reduceAdd, Int.reduceToNat, reduceCtorEq, Nat.reduceLeDiff]
   exact BmO (sz := []) (d := b.drop (i + 1)) (.inr ⟨rfl, rfl⟩) (.inl rfl) (fun _ => rfl) (by simp) (by simp; omega) rfl (fun _ h => by cases h) fun _ => bad
  | some j =>
   rw [hr.1 j hB]
   simp -dsimp (disch := first | assumption | omega | (simp only [A3b]; done) | (simp only [A3b]; omega)) only [↓A3g, A3c, A3e, A3f, eq_self, forall_const, Nat.reduceLT, Nat.reduceEqDiff, Nat.reduceSub, Nat.reduceMul, Nat.reduceMod, Nat.reduceDiv, Nat.reducePow, UInt8.reduceToNat, Int.reduceEq, Int.reduceLT, Int.reduceLE, ↓reduceIte, Nat.reduceAdd, Int.reduceToNat, reduceCtorEq, Nat.reduceLeDiff]
   refine BmO (sz := (b.take i).drop (j + 1)) (d := b.drop (i + 1)) (.inl rfl) (.inl rfl) (fun _ => rfl) (by simp; omega) (by simp; omega) rfl (fun _ _ k h1 h2 h3 y hy => ⟨fun k' d' h => ?_, fun h => ?_⟩) fun h => ⟨fun k d he => ?_, fun _ => rfl⟩
   ·obtain ⟨i', j', q1, rfl, q2, q3, _⟩ := hno k' d' h
    rw [hA] at q1; cases q1
    rw [hB] at q2; cases q2
    have hkk : k = k' := by
     rw [A38] at h1 q3
     rcases h1 with ⟨rfl, e1⟩ | ⟨rfl, e1⟩ | ⟨rfl, e1⟩ | ⟨rfl, e1⟩ <;> rw [e1] at q3 <;> simp at q3 <;> omega
    subst hkk
    exact ⟨y, hy, rfl⟩
   ·exact absurd (BwF hA hB h1 h2 h3) (h k _)
   ·obtain ⟨i', j', q1, rfl, q2, q3, q4, q5⟩ := hno k d he
    rw [hA] at q1; cases q1
    rw [hB] at q2; cases q2
    exact absurd ⟨rfl, rfl, ⟨k, q3⟩, q4, q5⟩ h
end Go.Proofs.YtmlompedpahkjaaGreatDoor


namespace Go.Proofs.YtmlompedpahkjaaGreatDoor
open Go.RowKit Kit
variable [A4e]
set_option linter.unusedSectionVars false
set_option linter.unusedVariables false
set_option linter.unusedSimpArgs false

theorem BBb (k : Int) : A4p Tryz.prog 18 [i64 k] (fun r => r = ts ((A6a k).getD [])) := by
 refine A3p.toPureV (Bk3 (by simp) ?_)
 by_cases c1 : k = 1
 ·subst c1
  simp -dsimp (disch := first | assumption | omega | (simp only [A3b]; done) | (simp only [A3b]; omega)) only [↓A3g, A3c, A3e, A3f, eq_self, forall_const, Nat.reduceLT, Nat.reduceEqDiff, Nat.reduceSub, Nat.reduceMul, Nat.reduceMod, Nat.reduceDiv, Nat.reducePow, UInt8.reduceToNat, Int.reduceEq, Int.reduceLT, Int.reduceLE, ↓reduceIte, Nat.reduceAdd, Int.reduceToNat, reduceCtorEq, Nat.reduceLeDiff, ↓A88]
  rfl
 by_cases c2 : k = 2
 ·subst c2
  simp -dsimp (disch := first | assumption | omega | (simp only [A3b]; done) | (simp only [A3b]; omega)) only [↓A3g, A3c, A3e, A3f, eq_self, forall_const, Nat.reduceLT, Nat.reduceEqDiff, Nat.reduceSub, Nat.reduceMul, Nat.reduceMod, Nat.reduceDiv, Nat.reducePow, UInt8.reduceToNat, Int.reduceEq, Int.reduceLT, Int.reduceLE, ↓reduceIte, Nat.reduceAdd, Int.reduceToNat, reduceCtorEq, Nat.reduceLeDiff, ↓A88]
  rfl
 by_cases c3 : k = 3
 ·subst c3
  simp -dsimp (disch := first | assumption | omega | (simp only [A3b]; done) | (simp only [A3b]; omega)) only [↓A3g, A3c, A3e, A3f, eq_self, forall_const, Nat.reduceLT, Nat.reduceEqDiff, Nat.reduceSub, Nat.reduceMul, Nat.reduceMod, Nat.reduceDiv, Nat.reducePow, UInt8.reduceToNat, Int.reduceEq, Int.reduceLT, Int.reduceLE, ↓reduceIte, Nat.reduceAdd, Int.reduceToNat, reduceCtorEq, Nat.reduceLeDiff, ↓A88]
  rfl
 by_cases c4 : k = 4
 ·subst c4
  simp -dsimp (disch := first | assumption | omega | (simp only [A3b]; done) | (simp only [A3b]; omega)) only [↓A3g, A3c, A3e, A3f, eq_self, forall_const, Nat.reduceLT, Nat.reduceEqDiff, Nat.reduceSub, Nat.reduceMul, Nat.reduceMod, Nat.reduceDiv, Nat.reducePow, UInt8.reduceToNat, Int.reduceEq, Int.reduceLT, Int.reduceLE, ↓reduceIte, Nat.reduceAdd, Int.reduceToNat, reduceCtorEq, Nat.reduceLeDiff, ↓A88]
  rfl
 have hn : A6a k = none := by unfold A6a; rw [if_neg c1, if_neg c2, if_neg c3, if_neg c4]
 simp -dsimp (disch := first | assumption | omega | (simp only [A3b]; done) | (simp only [A3b]; omega)) only [↓A3g, A3c, A3e, A3f, eq_self, forall_const, Nat.reduceLT, Nat.reduceEqDiff, Nat.reduceSub, Nat.reduceMul, Nat.reduceMod, Nat.reduceDiv, Nat.reducePow, UInt8.reduceToNat, Int.reduceEq, Int.reduceLT, Int.reduceLE, ↓reduceIte, Nat.reduceAdd, Int.reduceToNat, reduceCtorEq, Nat.reduceLeDiff, ↓A88, c1, c2, c3, c4]
 rw [hn]; rfl
theorem Bq2 {b : UInt8} : (∀ y : TV, y ∈ [TV.val (Value.int IntKind.u8 (b.toNat : Int))] → BlB y) = True := by
 refine eq_true ?_
 intro y hy
 obtain rfl := List.mem_singleton.1 hy
 exact Bfs b
theorem Blu {a b : TV} : (List.replicate 1 a).set 0 b = [b] := by simp
theorem Bmr (n : Nat) : (Lib.decDigits n).length ≤ n + 1 := by
 induction n using Nat.strongRecOn with
 | _ n ih =>
  by_cases h : n < 10
  ·rw [Lib.decDigits_one h]; simp
  ·rw [Lib.decDigits.eq_1 n, dif_neg h, List.length_append]
   have := ih (n / 10) (by omega)
   simp only [List.length_cons, List.length_nil]; omega
/-- The document's Decimal. -/
theorem Bqi (n : Nat) (hn : n ≤ 1000000000) : A4p Tryz.prog 19 [i64 (n : Int)] (fun r => r = ts (Lib.decDigits n)) := by
 refine A3p.toPureV (Bhm (by simp) ?_)
 by_cases h0 : n = 0
 ·subst h0
  simp -dsimp (disch := first | assumption | omega) only [↓A3g, A3c, A3e, A3f, eq_self, forall_const, Nat.reduceLT, Nat.reduceEqDiff, Nat.reduceSub, Nat.reduceMul, Nat.reduceMod, Nat.reduceDiv, Nat.reducePow, UInt8.reduceToNat, Int.reduceEq, Int.reduceLT, Int.reduceLE, ↓reduceIte, Nat.reduceAdd, Int.reduceToNat, reduceCtorEq, Nat.reduceLeDiff, ↓A8p]
  rw [Lib.decDigits_one (by omega)]
  rfl
 simp -dsimp (disch := first | assumption | omega) only [↓A3g, A3c, A3e, A3f, eq_self, forall_const, Nat.reduceLT, Nat.reduceEqDiff, Nat.reduceSub, Nat.reduceMul, Nat.reduceMod, Nat.reduceDiv, Nat.reducePow, UInt8.reduceToNat, Int.reduceEq, Int.reduceLT, Int.reduceLE, ↓reduceIte, Nat.reduceAdd, Int.reduceToNat, reduceCtorEq, Nat.reduceLeDiff, ↓A8p]
 have dl := Bmr n
 refine Bgt (fun q e H => ∃ (m : Nat) (s : List UInt8), q = m ∧ m ≤ n ∧ ((m = 0 ∧ s = Lib.decDigits n) ∨ (0 < m ∧ Lib.decDigits n = Lib.decDigits m ++ s)) ∧ e = [(0, i64 (m : Int)), (3, ts s)] ∧ H = []) n ?_ ?_
 ·exact ⟨n, [], rfl, Nat.le_refl _, .inr ⟨by omega, by simp⟩, rfl, rfl⟩
 ·rintro q e H ⟨m, s, rfl, hmn, hm, rfl, rfl⟩
  have hsl : s.length ≤ n + 1 := by
   rcases hm with ⟨_, rfl⟩ | ⟨_, h⟩
   ·exact dl
   ·rw [h, List.length_append] at dl; omega
  by_cases hpos : 0 < q
  ·have h48 : (48 + q % 10) < 256 := by omega
   have hsl2 : ([UInt8.ofNat (48 + q % 10)] : List UInt8).length + s.length ≤ 9223372036854775807 := by simp only [List.length_cons, List.length_nil]; omega
   simp -dsimp (disch := first | assumption | omega) only [↓A3g, A3c, A3e, A3f, eq_self, forall_const, Nat.reduceLT, Nat.reduceEqDiff, Nat.reduceSub, Nat.reduceMul, Nat.reduceMod, Nat.reduceDiv, Nat.reducePow, UInt8.reduceToNat, Int.reduceEq, Int.reduceLT, Int.reduceLE, ↓reduceIte, Nat.reduceAdd, Int.reduceToNat, reduceCtorEq, Nat.reduceLeDiff, ↓A8p, Blu, BAd, Bq2, Brt, hsl2]
   refine Bvp (q / 10) 0 (by omega) (by omega) rfl rfl ⟨q / 10, [UInt8.ofNat (48 + q % 10)] ++ s, rfl, by omega, ?_, rfl, rfl⟩
   have hd : Lib.decDigits n = Lib.decDigits q ++ s := by
    rcases hm with ⟨h, _⟩ | ⟨_, h⟩
    ·omega
    ·exact h
   by_cases h10 : q < 10
   ·refine .inl ⟨by omega, ?_⟩
    rw [hd, Lib.decDigits_one h10, Nat.mod_eq_of_lt h10]
   ·refine .inr ⟨by omega, ?_⟩
    rw [hd, Lib.decDigits, dif_neg h10, List.append_assoc]
  ·simp -dsimp (disch := first | assumption | omega) only [↓A3g, A3c, A3e, A3f, eq_self, forall_const, Nat.reduceLT, Nat.reduceEqDiff, Nat.reduceSub, Nat.reduceMul, Nat.reduceMod, Nat.reduceDiv, Nat.reducePow, UInt8.reduceToNat, Int.reduceEq, Int.reduceLT, Int.reduceLE, ↓reduceIte, Nat.reduceAdd, Int.reduceToNat, reduceCtorEq, Nat.reduceLeDiff, ↓A8p]
   rcases hm with ⟨_, rfl⟩ | ⟨h, _⟩
   ·rfl
   ·omega
variable [A3k] [A3n]
theorem BiW (k : Int) (d : List UInt8) (hd : d.length ≤ 1000000) : A9X Tryz.prog 10 [.agg [i64 k, slB d]] (A7W (fun c => .tup [.val (.slice none 0 0), i64 (c : Int)]) (fun b => .tup [slB b, i64 ((0 : Nat) : Int)]) k d) := by
 refine A3p.toFreshV (Bie (by simp) ?_)
 simp -dsimp (disch := first | assumption | omega | (simp only [A3b]; done) | (simp only [A3b]; omega)) only [↓A3g, A3c, A3e, A3f, eq_self, forall_const, Nat.reduceLT, Nat.reduceEqDiff, Nat.reduceSub, Nat.reduceMul, Nat.reduceMod, Nat.reduceDiv, Nat.reducePow, UInt8.reduceToNat, Int.reduceEq, Int.reduceLT, Int.reduceLE, ↓reduceIte, Nat.reduceAdd, Int.reduceToNat, reduceCtorEq, Nat.reduceLeDiff, ↓Bhi, ↓Bfq]
 refine (BBb k).calls rfl fun r hr => ?_
 subst hr
 cases hk : A6a k with
 | none =>
  have he : A9O k d = .error 20 := by unfold A9O; rw [hk]
  have := A7W.err (no := fun c => .tup [.val (.slice none 0 0), i64 (c : Int)]) (yes := fun b => .tup [slB b, i64 ((0 : Nat) : Int)]) he
  simp -dsimp (disch := first | assumption | omega | (simp only [A3b]; done) | (simp only [A3b]; omega)) only [↓A3g, A3c, A3e, A3f, eq_self, forall_const, Nat.reduceLT, Nat.reduceEqDiff, Nat.reduceSub, Nat.reduceMul, Nat.reduceMod, Nat.reduceDiv, Nat.reducePow, UInt8.reduceToNat, Int.reduceEq, Int.reduceLT, Int.reduceLE, ↓reduceIte, Nat.reduceAdd, Int.reduceToNat, reduceCtorEq, Nat.reduceLeDiff, ↓A7x, ↓A9d]
  exact this
 | some n =>
  have hn6 := (Bag hk).2.2
  have hne : n ≠ [] := by
   rcases A38.1 hk with ⟨_, rfl⟩ | ⟨_, rfl⟩ | ⟨_, rfl⟩ | ⟨_, rfl⟩ <;> simp
  by_cases hl : d.length ≤ 100000
  case neg =>
   have he : A9O k d = .error 11 := by unfold A9O; rw [hk]; simp only; rw [if_neg hl]
   have := A7W.err (no := fun c => .tup [.val (.slice none 0 0), i64 (c : Int)]) (yes := fun b => .tup [slB b, i64 ((0 : Nat) : Int)]) he
   simp -dsimp (disch := first | assumption | omega | (simp only [A3b]; done) | (simp only [A3b]; omega)) only [↓A3g, A3c, A3e, A3f, eq_self, forall_const, Nat.reduceLT, Nat.reduceEqDiff, Nat.reduceSub, Nat.reduceMul, Nat.reduceMod, Nat.reduceDiv, Nat.reducePow, UInt8.reduceToNat, Int.reduceEq, Int.reduceLT, Int.reduceLE, ↓reduceIte, Nat.reduceAdd, Int.reduceToNat, reduceCtorEq, Nat.reduceLeDiff, ↓A7x, ↓A9Y, ↓A9d, hne]
   exact this
  have he : A9O k d = .ok (n ++ 32 :: Lib.decDigits d.length ++ 0 :: d) := by unfold A9O; rw [hk]; simp only; rw [if_pos hl]
  have htn : ∀ x : List UInt8, (x.map by8).take x.length = x.map by8 := fun x => List.take_of_length_le (by simp)
  have ht1 : ∀ y : TV, List.take 1 [y] = [y] := fun y => rfl
  have hd20 := Bmr d.length
  simp -dsimp (disch := first | assumption | omega | (simp only [A3b]; done) | (simp only [A3b]; omega)) only [↓A3g, A3c, A3e, A3f, eq_self, forall_const, Nat.reduceLT, Nat.reduceEqDiff, Nat.reduceSub, Nat.reduceMul, Nat.reduceMod, Nat.reduceDiv, Nat.reducePow, UInt8.reduceToNat, Int.reduceEq, Int.reduceLT, Int.reduceLE, ↓reduceIte, Nat.reduceAdd, Int.reduceToNat, reduceCtorEq, Nat.reduceLeDiff, ↓A7x, ↓A9Y, ↓BfE, ↓Bfc, hne, Bjd, htn, ↓BeR, Blu, ht1]
  have e1 : n.map by8 ++ [TV.val (.int .u8 ((32 : Nat) : Int))] = (n ++ [32]).map by8 := by simp [by8]
  have e2 : n.length + 1 = (n ++ [32]).length := by simp
  rw [e1, e2]
  have hn7 : (n ++ [(32 : UInt8)]).length ≤ 7 := by simp; omega
  have hb' : n ++ 32 :: Lib.decDigits d.length ++ 0 :: d = (n ++ [32]) ++ Lib.decDigits d.length ++ [0] ++ d := by simp
  rw [hb'] at he
  generalize n ++ [(32 : UInt8)] = L at *
  simp -dsimp (disch := first | assumption | omega | (simp only [A3b]; done) | (simp only [A3b]; omega)) only [↓A3g, A3c, A3e, A3f, eq_self, forall_const, Nat.reduceLT, Nat.reduceEqDiff, Nat.reduceSub, Nat.reduceMul, Nat.reduceMod, Nat.reduceDiv, Nat.reducePow, UInt8.reduceToNat, Int.reduceEq, Int.reduceLT, Int.reduceLE, ↓reduceIte, Nat.reduceAdd, Int.reduceToNat, reduceCtorEq, Nat.reduceLeDiff, ↓Be5]
  refine (Bqi d.length (by omega)).calls rfl fun r hr => ?_
  subst hr
  have e3 : L.map by8 ++ (Lib.decDigits d.length).map by8 = (L ++ Lib.decDigits d.length).map by8 := by simp
  have e4 : L.length + (Lib.decDigits d.length).length = (L ++ Lib.decDigits d.length).length := by simp
  have hMl : (L ++ Lib.decDigits d.length).length ≤ 200000 := by rw [List.length_append]; omega
  simp -dsimp (disch := first | assumption | omega | (simp only [A3b]; done) | (simp only [A3b]; omega)) only [↓A3g, A3c, A3e, A3f, eq_self, forall_const, Nat.reduceLT, Nat.reduceEqDiff, Nat.reduceSub, Nat.reduceMul, Nat.reduceMod, Nat.reduceDiv, Nat.reducePow, UInt8.reduceToNat, Int.reduceEq, Int.reduceLT, Int.reduceLE, ↓reduceIte, Nat.reduceAdd, Int.reduceToNat, reduceCtorEq, Nat.reduceLeDiff, Bjd, htn]
  rw [e3, e4]
  generalize L ++ Lib.decDigits d.length = M at *
  have e5 : M.map by8 ++ [TV.val (.int .u8 ((0 : Nat) : Int))] = (M ++ [0]).map by8 := by simp [by8]
  have e6 : M.length + 1 = (M ++ [(0 : UInt8)]).length := by simp
  have hN : (M ++ [(0 : UInt8)]).length ≤ 200001 := by rw [← e6]; omega
  simp -dsimp (disch := first | assumption | omega | (simp only [A3b]; done) | (simp only [A3b]; omega)) only [↓A3g, A3c, A3e, A3f, eq_self, forall_const, Nat.reduceLT, Nat.reduceEqDiff, Nat.reduceSub, Nat.reduceMul, Nat.reduceMod, Nat.reduceDiv, Nat.reducePow, UInt8.reduceToNat, Int.reduceEq, Int.reduceLT, Int.reduceLE, ↓reduceIte, Nat.reduceAdd, Int.reduceToNat, reduceCtorEq, Nat.reduceLeDiff, htn, Blu, ht1]
  rw [e5, e6]
  generalize M ++ [(0 : UInt8)] = M2 at *
  have := A7W.ok (no := fun c => .tup [.val (.slice none 0 0), i64 (c : Int)]) (yes := fun b => .tup [slB b, i64 ((0 : Nat) : Int)]) he
  have e7 : M2.map by8 ++ d.map by8 = (M2 ++ d).map by8 := by simp
  have e8 : M2.length + d.length = (M2 ++ d).length := by simp
  simp -dsimp (disch := first | assumption | omega | (simp only [A3b]; done) | (simp only [A3b]; omega)) only [↓A3g, A3c, A3e, A3f, eq_self, forall_const, Nat.reduceLT, Nat.reduceEqDiff, Nat.reduceSub, Nat.reduceMul, Nat.reduceMod, Nat.reduceDiv, Nat.reducePow, UInt8.reduceToNat, Int.reduceEq, Int.reduceLT, Int.reduceLE, ↓reduceIte, Nat.reduceAdd, Int.reduceToNat, reduceCtorEq, Nat.reduceLeDiff, htn]
  rw [e7, e8]
  generalize M2 ++ d = X at *
  simp -dsimp (disch := first | assumption | omega | (simp only [A3b]; done) | (simp only [A3b]; omega)) only [↓A3g, A3c, A3e, A3f, eq_self, forall_const, Nat.reduceLT, Nat.reduceEqDiff, Nat.reduceSub, Nat.reduceMul, Nat.reduceMod, Nat.reduceDiv, Nat.reducePow, UInt8.reduceToNat, Int.reduceEq, Int.reduceLT, Int.reduceLE, ↓reduceIte, Nat.reduceAdd, Int.reduceToNat, reduceCtorEq, Nat.reduceLeDiff, ↓A9d, htn]
  exact this
theorem BDt (k : Int) (d : List UInt8) (hd : d.length ≤ 1000000) : A9X Tryz.prog 11 [.agg [i64 k, slB d]] (A7W (fun c => .tup [.arr 20 1 ((List.replicate 20 (0 : UInt8)).map by8), i64 (c : Int)]) (fun b => .tup [.arr 20 1 ((sha b).map by8), i64 ((0 : Nat) : Int)]) k d) := by
 refine A3p.toFreshV (BnS (by simp) ?_)
 simp -dsimp (disch := first | assumption | omega | (simp only [A3b]; done) | (simp only [A3b]; omega)) only [↓A3g, A3c, A3e, A3f, eq_self, forall_const, Nat.reduceLT, Nat.reduceEqDiff, Nat.reduceSub, Nat.reduceMul, Nat.reduceMod, Nat.reduceDiv, Nat.reducePow, UInt8.reduceToNat, Int.reduceEq, Int.reduceLT, Int.reduceLE, ↓reduceIte, Nat.reduceAdd, Int.reduceToNat, reduceCtorEq, Nat.reduceLeDiff, ↓BlN, ↓Bio]
 refine (BiW k d hd).pure.calls rfl fun r hr => ?_
 cases he : A9O k d with
 | error c =>
  rw [hr.2 c he]
  have hc : ¬ c = 0 := by
   unfold A9O at he
   split at he
   ·cases he; decide
   ·split at he <;> cases he; decide
  have := A7W.err (no := fun c => .tup [.arr 20 1 ((List.replicate 20 (0 : UInt8)).map by8), i64 (c : Int)]) (yes := fun b => .tup [.arr 20 1 ((sha b).map by8), i64 ((0 : Nat) : Int)]) he
  simp -dsimp (disch := first | assumption | omega | (simp only [A3b]; done) | (simp only [A3b]; omega)) only [↓A3g, A3c, A3e, A3f, eq_self, forall_const, Nat.reduceLT, Nat.reduceEqDiff, Nat.reduceSub, Nat.reduceMul, Nat.reduceMod, Nat.reduceDiv, Nat.reducePow, UInt8.reduceToNat, Int.reduceEq, Int.reduceLT, Int.reduceLE, ↓reduceIte, Nat.reduceAdd, Int.reduceToNat, reduceCtorEq, Nat.reduceLeDiff, ↓Beb, hc]
  exact this
 | ok b =>
  rw [hr.1 b he]
  have hbl : b.length ≤ 1000000000 := by have := BjD he; omega
  have := A7W.ok (no := fun c => .tup [.arr 20 1 ((List.replicate 20 (0 : UInt8)).map by8), i64 (c : Int)]) (yes := fun b => .tup [.arr 20 1 ((sha b).map by8), i64 ((0 : Nat) : Int)]) he
  simp -dsimp (disch := first | assumption | omega | (simp only [A3b]; done) | (simp only [A3b]; omega)) only [↓A3g, A3c, A3e, A3f, eq_self, forall_const, Nat.reduceLT, Nat.reduceEqDiff, Nat.reduceSub, Nat.reduceMul, Nat.reduceMod, Nat.reduceDiv, Nat.reducePow, UInt8.reduceToNat, Int.reduceEq, Int.reduceLT, Int.reduceLE, ↓reduceIte, Nat.reduceAdd, Int.reduceToNat, reduceCtorEq, Nat.reduceLeDiff, ↓Beb]
  refine (Bz8 b hbl).calls rfl fun r hr => ?_
  subst hr
  have hsl := BaK b
  generalize sha b = q at *
  simp -dsimp (disch := first | assumption | omega | (simp only [A3b]; done) | (simp only [A3b]; omega)) only [↓A3g, A3c, A3e, A3f, eq_self, forall_const, Nat.reduceLT, Nat.reduceEqDiff, Nat.reduceSub, Nat.reduceMul, Nat.reduceMod, Nat.reduceDiv, Nat.reducePow, UInt8.reduceToNat, Int.reduceEq, Int.reduceLT, Int.reduceLE, ↓reduceIte, Nat.reduceAdd, Int.reduceToNat, reduceCtorEq, Nat.reduceLeDiff, ↓Beb, hsl]
  exact this
def BCV (b : List UInt8) (r : TV) : Prop := (∀ k d, A9O k d = .ok b → r = .tup [.agg [i64 k, slB d], tb true]) ∧ ((∀ k d, A9O k d ≠ .ok b) → r = .tup [.agg [i64 ((0 : Nat) : Int), .val (.slice none 0 0)], tb false])
theorem BtR (b : List UInt8) (hb : b.length ≤ 1000000) : A4p Tryz.prog 22 [slB b] (BCV b) := by
 refine A3p.toPureV (Bik (by simp) ?_)
 have hunq : ∀ {k k' : Int} {d d' : List UInt8}, A9O k d = .ok b → A9O k' d' = .ok b → k = k' ∧ d = d' := fun {k k' d d'} h h' => by
  obtain ⟨i, j, p1, p2, p3, p4, _⟩ := BhV h
  obtain ⟨i', j', q1, q2, q3, q4, _⟩ := BhV h'
  rw [p1] at q1; cases q1
  rw [p3] at q3; cases q3
  refine ⟨?_, p2.symm.trans q2⟩
  rw [A38] at p4 q4
  rcases p4 with ⟨rfl, e1⟩ | ⟨rfl, e1⟩ | ⟨rfl, e1⟩ | ⟨rfl, e1⟩ <;> rw [e1] at q4 <;> simp at q4 <;> omega
 have hk4 : ∀ {k : Int} {d : List UInt8}, A9O k d = .ok b → 1 ≤ k ∧ k ≤ 4 := fun {k d} h => by
  obtain ⟨n, hn, _⟩ := Bi0.1 h
  exact ⟨(Bag hn).1, (Bag hn).2.1⟩
 simp -dsimp (disch := first | assumption | omega | (simp only [A3b]; done) | (simp only [A3b]; omega)) only [↓A3g, A3c, A3e, A3f, eq_self, forall_const, Nat.reduceLT, Nat.reduceEqDiff, Nat.reduceSub, Nat.reduceMul, Nat.reduceMod, Nat.reduceDiv, Nat.reducePow, UInt8.reduceToNat, Int.reduceEq, Int.reduceLT, Int.reduceLE, ↓reduceIte, Nat.reduceAdd, Int.reduceToNat, reduceCtorEq, Nat.reduceLeDiff, ↓Bhh, ↓BdW, ↓Bfh]
 refine Bgt (fun q e H => ∃ κ : Nat, q = 5 - κ ∧ 1 ≤ κ ∧ κ ≤ 5 ∧ (∀ k d, A9O k d = .ok b → (κ : Int) ≤ k) ∧ H[0]? = some (.obj 0 (.agg [i64 ((0 : Nat) : Int), .val (.slice none 0 0)])) ∧
  e = [(0, slB b), (2, .op 0 0 []), (4, i64 (κ : Int))]) 4 ?_ ?_
 ·exact ⟨1, rfl, by omega, by omega, fun k d h => (hk4 h).1, rfl, by simp [forget, get]⟩
 ·rintro q e H ⟨κ, rfl, hκ1, hκ5, hlo, hH0, rfl⟩
  have l0 := (List.getElem?_eq_some_iff.1 hH0).1
  have hat0 : ∀ o : Ob, (H.set 0 o)[0]? = some o := fun o => List.getElem?_set_self l0
  by_cases c4 : κ ≤ 4
  ·simp -dsimp (disch := first | assumption | omega | (simp only [A3b]; done) | (simp only [A3b]; omega)) only [↓A3g, A3c, A3e, A3f, eq_self, forall_const, Nat.reduceLT, Nat.reduceEqDiff, Nat.reduceSub, Nat.reduceMul, Nat.reduceMod, Nat.reduceDiv, Nat.reducePow, UInt8.reduceToNat, Int.reduceEq, Int.reduceLT, Int.reduceLE, ↓reduceIte, Nat.reduceAdd, Int.reduceToNat, reduceCtorEq, Nat.reduceLeDiff, ↓A9Q, ↓Be7, ↓BeV]
   refine Bgt (fun q e H' => ∃ at' : Nat, q = b.length - at' ∧ at' ≤ b.length ∧ ¬ (0 : UInt8) ∈ b.take at' ∧ H' = H ∧ e = [(0, slB b), (2, .op 0 0 []), (4, i64 (κ : Int)), (5, i64 (at' : Int))]) b.length ?_ ?_
   ·exact ⟨0, by simp, by omega, by simp, rfl, by simp [forget, get]⟩
   ·rintro q e H' ⟨at', rfl, hat, hno, rfl, rfl⟩
    by_cases h : at' < b.length
    ·have hg : b[at']? = some b[at'] := List.getElem?_eq_getElem h
     have hsucc := List.take_succ_eq_append_getElem h
     have hsplit : b = b.take at' ++ b[at'] :: b.drop (at' + 1) := by
      conv => lhs; rw [← List.take_append_drop at' b, List.drop_eq_getElem_cons h]
     generalize b[at'] = x at *
     by_cases hx : x.toNat = 0
     ·have hx0 : x = 0 := UInt8.toNat_inj.1 (by simpa using hx)
      subst hx0
      have hcut : A9v 0 b = some at' := by
       have := Be1 (c := 0) (m := b.drop (at' + 1)) hno
       rw [← hsplit, List.length_take, Nat.min_eq_left hat] at this
       exact this
      have hdd : ∀ {k : Int} {d : List UInt8}, A9O k d = .ok b → d = b.drop (at' + 1) := fun {k d} h => by
       obtain ⟨i, j, p1, p2, _⟩ := BhV h
       rw [hcut] at p1; cases p1
       exact p2.symm
      clear hsplit
      have hx' : (0 : UInt8).toNat = 0 := rfl
      simp -dsimp (disch := first | assumption | omega | (simp only [A3b]; done) | (simp only [A3b]; omega)) only [↓A3g, A3c, A3e, A3f, eq_self, forall_const, Nat.reduceLT, Nat.reduceEqDiff, Nat.reduceSub, Nat.reduceMul, Nat.reduceMod, Nat.reduceDiv, Nat.reducePow, UInt8.reduceToNat, Int.reduceEq, Int.reduceLT, Int.reduceLE, ↓reduceIte, Nat.reduceAdd, Int.reduceToNat, reduceCtorEq, Nat.reduceLeDiff, ↓A7D, hg, hx', ↓A9E, ↓Bfv, ↓BfG]
      refine (BiW κ (b.drop (at' + 1)) (by simp; omega)).pure.calls rfl fun r hr => ?_
      cases he : A9O κ (b.drop (at' + 1)) with
      | error c =>
       rw [hr.2 c he]
       have hc : ¬ c = 0 := by
        unfold A9O at he
        split at he
        ·cases he; decide
        ·split at he <;> cases he; decide
       simp -dsimp (disch := first | assumption | omega | (simp only [A3b]; done) | (simp only [A3b]; omega)) only [↓A3g, A3c, A3e, A3f, eq_self, forall_const, Nat.reduceLT, Nat.reduceEqDiff, Nat.reduceSub, Nat.reduceMul, Nat.reduceMod, Nat.reduceDiv, Nat.reducePow, UInt8.reduceToNat, Int.reduceEq, Int.reduceLT, Int.reduceLE, ↓reduceIte, Nat.reduceAdd, Int.reduceToNat, reduceCtorEq, Nat.reduceLeDiff, hc, ↓A9N]
       refine A6g (5 - (κ + 1)) (by omega) (by simp) ⟨κ + 1, rfl, by omega, by omega, fun k d h => ?_, by rw [List.getElem?_append_left l0]; exact hH0, by simp [forget, get]⟩
       have h1 := hlo k d h
       have h2 : k ≠ κ := fun e => by
        subst e
        rw [← hdd h, h] at he; cases he
       omega
      | ok x =>
       rw [hr.1 x he]
       by_cases hxb : x = b
       ·have hE : A9O κ (b.drop (at' + 1)) = .ok b := by rw [he, hxb]
        have hfin : BCV b (.tup [.agg [i64 (κ : Int), slB (b.drop (at' + 1))], tb true]) := ⟨fun k d h => by obtain ⟨rfl, rfl⟩ := hunq hE h; rfl, fun h => absurd hE (h _ _)⟩
        have hat1 : ∀ o (T : List Ob), (H'.set 0 o ++ T)[0]? = some o := fun o T => by rw [List.getElem?_append_left (by simpa using l0), List.getElem?_set_self l0]
        simp -dsimp (disch := first | assumption | omega | (simp only [A3b]; done) | (simp only [A3b]; omega)) only [↓A3g, A3c, A3e, A3f, eq_self, forall_const, Nat.reduceLT, Nat.reduceEqDiff, Nat.reduceSub, Nat.reduceMul, Nat.reduceMod, Nat.reduceDiv, Nat.reducePow, UInt8.reduceToNat, Int.reduceEq, Int.reduceLT, Int.reduceLE, ↓reduceIte, Nat.reduceAdd, Int.reduceToNat, reduceCtorEq, Nat.reduceLeDiff, hxb, ↓A9b, hH0, hat1]
        exact hfin
       ·simp -dsimp (disch := first | assumption | omega | (simp only [A3b]; done) | (simp only [A3b]; omega)) only [↓A3g, A3c, A3e, A3f, eq_self, forall_const, Nat.reduceLT, Nat.reduceEqDiff, Nat.reduceSub, Nat.reduceMul, Nat.reduceMod, Nat.reduceDiv, Nat.reducePow, UInt8.reduceToNat, Int.reduceEq, Int.reduceLT, Int.reduceLE, ↓reduceIte, Nat.reduceAdd, Int.reduceToNat, reduceCtorEq, Nat.reduceLeDiff, hxb, ↓A9N]
        refine A6g (5 - (κ + 1)) (by omega) (by simp) ⟨κ + 1, rfl, by omega, by omega, fun k d h => ?_, by rw [List.getElem?_append_left l0]; exact hH0, by simp [forget, get]⟩
        have h1 := hlo k d h
        have h2 : k ≠ κ := fun e => by
         subst e
         rw [← hdd h, h] at he; cases he; exact hxb rfl
        omega
     ·simp -dsimp (disch := first | assumption | omega | (simp only [A3b]; done) | (simp only [A3b]; omega)) only [↓A3g, A3c, A3e, A3f, eq_self, forall_const, Nat.reduceLT, Nat.reduceEqDiff, Nat.reduceSub, Nat.reduceMul, Nat.reduceMod, Nat.reduceDiv, Nat.reducePow, UInt8.reduceToNat, Int.reduceEq, Int.reduceLT, Int.reduceLE, ↓reduceIte, Nat.reduceAdd, Int.reduceToNat, reduceCtorEq, Nat.reduceLeDiff, ↓A7D, hg]
      refine A6g (b.length - (at' + 1)) (by omega) (Nat.le_refl _) ⟨at' + 1, rfl, by omega, ?_, rfl, by simp [forget, get]⟩
      rw [hsucc, List.mem_append, List.mem_singleton]
      rintro (h | h)
      ·exact hno h
      ·exact hx (by rw [← h]; rfl)
    ·have hat2 : at' = b.length := by omega
     subst hat2
     rw [List.take_length] at hno
     have bad : ∀ k d, A9O k d ≠ .ok b := fun k d h => by
      obtain ⟨i, j, p1, _⟩ := BhV h
      obtain ⟨_, p2, _⟩ := Ba4 p1
      exact hno (List.mem_of_getElem? p2)
     simp -dsimp (disch := first | assumption | omega | (simp only [A3b]; done) | (simp only [A3b]; omega)) only [↓A3g, A3c, A3e, A3f, eq_self, forall_const, Nat.reduceLT, Nat.reduceEqDiff, Nat.reduceSub, Nat.reduceMul, Nat.reduceMod, Nat.reduceDiv, Nat.reducePow, UInt8.reduceToNat, Int.reduceEq, Int.reduceLT, Int.reduceLE, ↓reduceIte, Nat.reduceAdd, Int.reduceToNat, reduceCtorEq, Nat.reduceLeDiff, ↓A7D, ↓A9E, ↓A9b, hH0, hat0]
     exact ⟨fun k d h => absurd h (bad k d), fun _ => rfl⟩
  ·have hκ : κ = 5 := by omega
   subst hκ
   have bad : ∀ k d, A9O k d ≠ .ok b := fun k d h => by
    have h1 := hlo k d h
    have h2 := (hk4 h).2
    omega
   simp -dsimp (disch := first | assumption | omega | (simp only [A3b]; done) | (simp only [A3b]; omega)) only [↓A3g, A3c, A3e, A3f, eq_self, forall_const, Nat.reduceLT, Nat.reduceEqDiff, Nat.reduceSub, Nat.reduceMul, Nat.reduceMod, Nat.reduceDiv, Nat.reducePow, UInt8.reduceToNat, Int.reduceEq, Int.reduceLT, Int.reduceLE, ↓reduceIte, Nat.reduceAdd, Int.reduceToNat, reduceCtorEq, Nat.reduceLeDiff, ↓A9Q, ↓Bey, ↓A9b, hH0, hat0]
   exact ⟨fun k d h => absurd h (bad k d), fun _ => rfl⟩
end Go.Proofs.YtmlompedpahkjaaGreatDoor


namespace Go.Proofs.YtmlompedpahkjaaGreatDoor
variable [A4e]
set_option linter.unusedSectionVars false
set_option linter.unusedVariables false
set_option linter.defProp false
set_option maxRecDepth 100000

def A7M : A3d := .seq (.ops [mv_ 93 18,
  mv_ 94 93,
  ⟨some 95, .p (.mov (.t 6)), some ⟨94, true⟩⟩,
  ⟨some 96, .p (.lenV (.t 95)), some ⟨94, true⟩⟩,
  ⟨some 97, .p (.bin 3 .eql (.t 96) (ci_ 0)), some ⟨94, true⟩⟩,
  po_ 98 (.pick (.t 94) (.t 97) (.c (.bool false))),
  mv_ 4 98] [4])
 (.ret)
def A7N : A3d := .seq (.seq (.ops [mv_ 91 14,
  po_ 92 (.bin 3 .neq (.t 91) (ci_ 0))] [6, 18, 92])
 (.cond (.t 92)
 A7M
 (.skip)))
 (.seq (.ops [mv_ 99 6,
  so_ 100 (.call 13 [.t 99]),
  mv_ 19 100] [18, 19])
 (.seq (.ops [mv_ 101 18,
  mv_ 102 101,
  ⟨some 103, .p (.mov (.t 19)), some ⟨102, true⟩⟩,
  po_ 104 (.pick (.t 102) (.t 103) (.c (.bool false))),
  mv_ 4 104] [4])
 (.ret)))
def A7Q : A3d := .seq (.ops [mv_ 89 1,
  so_ 90 (.call 13 [.t 89]),
  mv_ 18 90] [6, 14, 18])
 A7N
def A7R : A3d := .seq (.seq (.ops [mv_ 67 11,
  po_ 68 (.un .not (.t 67)),
  mv_ 69 68,
  ⟨some 70, .p (.mov (.t 17)), some ⟨69, false⟩⟩,
  ⟨some 71, .p (.un .not (.t 70)), some ⟨69, false⟩⟩,
  po_ 72 (.pick (.t 69) (.c (.bool true)) (.t 71)),
  mv_ 73 72,
  ⟨some 74, .p (.mov (.t 10)), some ⟨73, false⟩⟩,
  ⟨some 75, .p (.mov (.t 14)), some ⟨73, false⟩⟩,
  ⟨some 76, .p (.bin 3 .neq (.t 74) (.t 75)), some ⟨73, false⟩⟩,
  po_ 77 (.pick (.t 73) (.c (.bool true)) (.t 76)),
  mv_ 78 77,
  ⟨some 79, .p (.load true 20 (.t 8)), some ⟨78, false⟩⟩,
  ⟨some 80, .p (.load true 20 (.t 15)), some ⟨78, false⟩⟩,
  ⟨some 81, .p (.gen (.eqA 20 true) [.t 79, .t 80]), some ⟨78, false⟩⟩,
  po_ 82 (.pick (.t 78) (.c (.bool true)) (.t 81)),
  mv_ 83 82,
  ⟨some 84, .p (.mov (.t 9)), some ⟨83, false⟩⟩,
  ⟨some 85, .s (.call 7 [.t 84]), some ⟨83, false⟩⟩,
  ⟨some 86, .p (.mov (.t 16)), some ⟨83, false⟩⟩,
  ⟨some 87, .p (.bin 3 .neq (.t 85) (.t 86)), some ⟨83, false⟩⟩,
  po_ 88 (.pick (.t 83) (.c (.bool true)) (.t 87))] [1, 6, 14, 88])
 (.cond (.t 88)
 (.seq (.ops [po_ 4 (.mov (.c (.bool false)))] [4])
  (.ret))
 (.skip)))
 A7Q
def A7E : A3d := .seq (.ops [mv_ 64 6,
  mv_ 65 13,
  so_ 66 (.call 12 [.t 64, .t 65]),
  mv_ 17 66] [1, 6, 8, 9, 10, 11, 14, 15, 16, 17])
 A7R
def A7G : A3d := .seq (.ops [po_ 60 (.load true 2 (.t 12)),
  so_ 61 (.call 11 [.t 60]),
  mv_ 59 61,
  po_ 62 (.ext 0 (.t 59)),
  po_ 63 (.ext 1 (.t 59)),
  so_ 15 (.alloc (.arr 20 1 [.val (.int .u8 ((0 : Nat) : Int)), .val (.int .u8 ((0 : Nat) : Int)), .val (.int .u8 ((0 : Nat) : Int)), .val (.int .u8 ((0 : Nat) : Int)), .val (.int .u8 ((0 : Nat) : Int)), .val (.int .u8 ((0 : Nat) : Int)), .val (.int .u8 ((0 : Nat) : Int)), .val (.int .u8 ((0 : Nat) : Int)), .val (.int .u8 ((0 : Nat) : Int)), .val (.int .u8 ((0 : Nat) : Int)), .val (.int .u8 ((0 : Nat) : Int)), .val (.int .u8 ((0 : Nat) : Int)), .val (.int .u8 ((0 : Nat) : Int)), .val (.int .u8 ((0 : Nat) : Int)), .val (.int .u8 ((0 : Nat) : Int)), .val (.int .u8 ((0 : Nat) : Int)), .val (.int .u8 ((0 : Nat) : Int)), .val (.int .u8 ((0 : Nat) : Int)), .val (.int .u8 ((0 : Nat) : Int)), .val (.int .u8 ((0 : Nat) : Int))])),
  ⟨none, .s (.store 20 (.t 15) (.t 62)), none⟩,
  mv_ 16 63] [1, 6, 8, 9, 10, 11, 13, 14, 15, 16])
 A7E
def A7L : A3d := .seq (.ops [po_ 55 (.load true 2 (.t 12)),
  so_ 56 (.call 10 [.t 55]),
  mv_ 54 56,
  po_ 57 (.ext 0 (.t 54)),
  po_ 58 (.ext 1 (.t 54)),
  mv_ 13 57,
  mv_ 14 58] [1, 6, 8, 9, 10, 11, 12, 13, 14])
 A7G
def A7y : A3d := .seq (.ops [po_ 52 (.load true 2 (.t 2)),
  so_ 53 (.call 9 [.t 52]),
  so_ 12 (.alloc (.agg [.val (.int .i64 ((0 : Nat) : Int)), .val (.slice none 0 0)])),
  ⟨none, .s (.store 2 (.t 12) (.t 53)), none⟩] [1, 6, 8, 9, 10, 11, 12])
 A7L
def A7H : A3d := .seq (.ops [mv_ 48 5,
  po_ 49 (.fieldA 1 1 (.t 2)),
  po_ 50 (.load false 1 (.t 49)),
  so_ 51 (.call 8 [.t 48, .t 50]),
  mv_ 11 51] [1, 2, 6, 8, 9, 10, 11])
 A7y
def A6T : A3d := .seq (.ops [mv_ 46 7,
  so_ 47 (.call 7 [.t 46]),
  mv_ 10 47] [1, 2, 5, 6, 8, 9, 10])
 A7H
def A61 : A3d := .seq (.ops [po_ 39 (.fieldA 0 0 (.t 2)),
  po_ 40 (.load false 1 (.t 39)),
  mv_ 41 5,
  ⟨some 42, .p (.build [.val (.int .i64 ((0 : Nat) : Int)), .val (.slice none 0 0)] [1, 1] [⟨0, .t 40⟩, ⟨1, .t 41⟩]), none⟩,
  so_ 43 (.call 6 [.t 42]),
  mv_ 38 43,
  po_ 44 (.ext 0 (.t 38)),
  po_ 45 (.ext 1 (.t 38)),
  so_ 8 (.alloc (.arr 20 1 [.val (.int .u8 ((0 : Nat) : Int)), .val (.int .u8 ((0 : Nat) : Int)), .val (.int .u8 ((0 : Nat) : Int)), .val (.int .u8 ((0 : Nat) : Int)), .val (.int .u8 ((0 : Nat) : Int)), .val (.int .u8 ((0 : Nat) : Int)), .val (.int .u8 ((0 : Nat) : Int)), .val (.int .u8 ((0 : Nat) : Int)), .val (.int .u8 ((0 : Nat) : Int)), .val (.int .u8 ((0 : Nat) : Int)), .val (.int .u8 ((0 : Nat) : Int)), .val (.int .u8 ((0 : Nat) : Int)), .val (.int .u8 ((0 : Nat) : Int)), .val (.int .u8 ((0 : Nat) : Int)), .val (.int .u8 ((0 : Nat) : Int)), .val (.int .u8 ((0 : Nat) : Int)), .val (.int .u8 ((0 : Nat) : Int)), .val (.int .u8 ((0 : Nat) : Int)), .val (.int .u8 ((0 : Nat) : Int)), .val (.int .u8 ((0 : Nat) : Int))])),
  ⟨none, .s (.store 20 (.t 8) (.t 44)), none⟩,
  mv_ 9 45] [1, 2, 5, 6, 7, 8, 9])
 A6T
def A60 : A3d := .seq (.ops [po_ 31 (.fieldA 0 0 (.t 2)),
  po_ 32 (.load false 1 (.t 31)),
  mv_ 33 5,
  ⟨some 34, .p (.build [.val (.int .i64 ((0 : Nat) : Int)), .val (.slice none 0 0)] [1, 1] [⟨0, .t 32⟩, ⟨1, .t 33⟩]), none⟩,
  so_ 35 (.call 5 [.t 34]),
  mv_ 30 35,
  po_ 36 (.ext 0 (.t 30)),
  po_ 37 (.ext 1 (.t 30)),
  mv_ 6 36,
  mv_ 7 37] [1, 2, 5, 6, 7])
 A61
def A6X : A3d := .seq (.ops [po_ 27 (.fieldA 1 1 (.t 2)),
  po_ 28 (.load false 1 (.t 27)),
  so_ 29 (.call 4 [.t 28]),
  mv_ 5 29] [1, 2, 5])
 A60
def A6U : A3d := .seq (.seq (.ops [po_ 20 (.fieldA 1 1 (.t 2)),
  po_ 21 (.load false 1 (.t 20)),
  po_ 22 (.lenV (.t 21)),
  mv_ 23 1,
  po_ 24 (.lenV (.t 23)),
  po_ 25 (.bin 3 .add (.t 22) (.t 24)),
  po_ 26 (.bin 3 .gtr (.t 25) (ci_ 300000))] [1, 2, 26])
 (.cond (.t 26)
 (.seq (.ops [po_ 4 (.mov (.c (.bool true)))] [4])
  (.ret))
 (.skip)))
 A6X
def A8R : A3d := .seq (.ops [so_ 2 (.box (.t 0)),
  po_ 4 (.mov (.c (.bool false)))] [1, 2])
 A6U
def A8J : List VR := [.tmp 4]
theorem Bdf : Tryz.f3.body.bind (trC Tryz.prog Tryz.f3.ntmps) = some (er A8R) := by kernel_rfl
theorem Bdp : trR Tryz.prog Tryz.f3.results.toList = some A8J := by kernel_rfl
def A96 := A3a A7M.eq_1
def A6C := A3a A7N.eq_1
def A6t := A3a A7Q.eq_1
def A6D := A3a A7R.eq_1
def A6E := A3a A7E.eq_1
def A6z := A3a A7G.eq_1
def A6H := A3a A7L.eq_1
def A6G := A3a A7y.eq_1
def A6J := A3a A7H.eq_1
def A6i := A3a A6T.eq_1
def A6h := A3a A61.eq_1
def A9r := A3a A60.eq_1
def A9x := A3a A6X.eq_1
def A9t := A3a A6U.eq_1
def Bcb := A3a A8R.eq_1
theorem A4L {K : TV → Prop} {e : Env} {H : List Ob} : res A8J e H K = res [.tmp 4] e H K := A29 rfl
def Bcj := A7f 105 Tryz.func3 Bdf Bdp rfl

def BaZ : A3d := .seq (.ops [mv_ 30 7,
  mv_ 31 30,
  ⟨some 32, .p (.mov (.t 6)), some ⟨31, true⟩⟩,
  ⟨some 33, .p (.bin 35 .eql (.t 32) (ci_ 24)), some ⟨31, true⟩⟩,
  po_ 34 (.pick (.t 31) (.t 33) (.c (.bool false))),
  mv_ 35 34,
  ⟨some 36, .p (.fieldA 0 0 (.t 4)), some ⟨35, true⟩⟩,
  ⟨some 37, .p (.load false 1 (.t 36)), some ⟨35, true⟩⟩,
  ⟨some 38, .p (.bin 22 .eql (.t 37) (ci_ 0)), some ⟨35, true⟩⟩,
  po_ 39 (.pick (.t 35) (.t 38) (.c (.bool false))),
  mv_ 40 39,
  ⟨some 41, .p (.fieldA 1 1 (.t 4)), some ⟨40, true⟩⟩,
  ⟨some 42, .p (.load false 1 (.t 41)), some ⟨40, true⟩⟩,
  ⟨some 43, .p (.lenV (.t 42)), some ⟨40, true⟩⟩,
  ⟨some 44, .p (.bin 3 .eql (.t 43) (ci_ 0)), some ⟨40, true⟩⟩,
  po_ 45 (.pick (.t 40) (.t 44) (.c (.bool false))),
  mv_ 2 45] [2])
 (.ret)
def Bah : A3d := .cond (.t 29)
 BaZ
 (.skip)
def Bao : A3d := .seq (.ops [mv_ 51 7,
  mv_ 52 51,
  ⟨some 53, .p (.mov (.t 10)), some ⟨52, true⟩⟩,
  po_ 54 (.pick (.t 52) (.t 53) (.c (.bool false))),
  mv_ 55 54,
  ⟨some 56, .p (.mov (.t 6)), some ⟨55, true⟩⟩,
  ⟨some 57, .p (.bin 35 .eql (.t 56) (ci_ 0)), some ⟨55, true⟩⟩,
  po_ 58 (.pick (.t 55) (.t 57) (.c (.bool false))),
  mv_ 59 58,
  ⟨some 60, .p (.fieldA 0 0 (.t 4)), some ⟨59, true⟩⟩,
  ⟨some 61, .p (.load false 1 (.t 60)), some ⟨59, true⟩⟩,
  ⟨some 62, .p (.fieldA 0 0 (.t 8)), some ⟨59, true⟩⟩,
  ⟨some 63, .p (.load false 1 (.t 62)), some ⟨59, true⟩⟩,
  ⟨some 64, .p (.bin 3 .eql (.t 61) (.t 63)), some ⟨59, true⟩⟩,
  po_ 65 (.pick (.t 59) (.t 64) (.c (.bool false))),
  mv_ 2 65] [2])
 (.ret)
def Ba0 : A3d := .seq (.ops [po_ 46 (.fieldA 1 1 (.t 4)),
  po_ 47 (.load false 1 (.t 46)),
  po_ 48 (.fieldA 1 1 (.t 8)),
  po_ 49 (.load false 1 (.t 48)),
  so_ 50 (.call 12 [.t 47, .t 49]),
  mv_ 10 50] [4, 6, 7, 8, 10])
 Bao
def BaU : A3d := .seq (.seq (.ops [mv_ 28 9,
  po_ 29 (.un .not (.t 28))] [4, 6, 7, 8, 29])
 Bah)
 Ba0
def Bat : A3d := .seq (.ops [mv_ 24 0,
  so_ 25 (.call 22 [.t 24]),
  mv_ 23 25,
  po_ 26 (.ext 0 (.t 23)),
  po_ 27 (.ext 1 (.t 23)),
  so_ 8 (.alloc (.agg [.val (.int .i64 ((0 : Nat) : Int)), .val (.slice none 0 0)])),
  ⟨none, .s (.store 2 (.t 8) (.t 26)), none⟩,
  mv_ 9 27] [4, 6, 7, 8, 9])
 BaU
def Ba1 : A3d := .seq (.ops [mv_ 20 3,
  mv_ 21 0,
  so_ 22 (.call 8 [.t 20, .t 21]),
  mv_ 7 22] [0, 4, 6, 7])
 Bat
def Bbk : A3d := .seq (.ops [mv_ 18 5,
  so_ 19 (.call 7 [.t 18]),
  mv_ 6 19] [0, 3, 4, 6])
 Ba1
def BaS : A3d := .seq (.ops [mv_ 14 3,
  so_ 15 (.call 21 [.t 14]),
  mv_ 13 15,
  po_ 16 (.ext 0 (.t 13)),
  po_ 17 (.ext 1 (.t 13)),
  so_ 4 (.alloc (.agg [.val (.int .i64 ((0 : Nat) : Int)), .val (.slice none 0 0)])),
  ⟨none, .s (.store 2 (.t 4) (.t 16)), none⟩,
  mv_ 5 17] [0, 3, 4, 5])
 Bbk
def A9G : A3d := .seq (.ops [mv_ 11 0,
  so_ 12 (.call 4 [.t 11]),
  mv_ 3 12] [0, 3])
 BaS
def BdG : A3d := .seq (.ops [po_ 2 (.mov (.c (.bool false)))] [0])
 A9G
def Bdq : List VR := [.tmp 2]
theorem Bh7 : Tryz.f13.body.bind (trC Tryz.prog Tryz.f13.ntmps) = some (er BdG) := by kernel_rfl
theorem Bid : trR Tryz.prog Tryz.f13.results.toList = some Bdq := by kernel_rfl
def BeC := A3a BaZ.eq_1
def A9g := A3a Bah.eq_1
def BeQ := A3a Bao.eq_1
def Beo := A3a Ba0.eq_1
def A89 := A3a BaU.eq_1
def A9j := A3a Bat.eq_1
def A86 := A3a Ba1.eq_1
def A84 := A3a Bbk.eq_1
def BdR := A3a BaS.eq_1
def Bc6 := A3a A9G.eq_1
def Bg3 := A3a BdG.eq_1
theorem BbY {K : TV → Prop} {e : Env} {H : List Ob} : res Bdq e H K = res [.tmp 2] e H K := A29 rfl
def BhQ := A7f 66 Tryz.func13 Bh7 Bid rfl

def Bfj : A3d := .seq (.ops [so_ 1 (.box (.t 0)),
  so_ 2 (.alloc (.agg [.val (.int .i64 ((0 : Nat) : Int)), .val (.slice none 0 0)]))] [1, 2])
 (.seq (.ops [po_ 3 (.fieldA 0 0 (.t 1)),
  po_ 4 (.load false 1 (.t 3)),
  po_ 5 (.fieldA 1 1 (.t 1)),
  po_ 6 (.load false 1 (.t 5)),
  ⟨some 7, .p (.build [.val (.int .i64 ((0 : Nat) : Int)), .val (.slice none 0 0)] [1, 1] [⟨0, .t 4⟩, ⟨1, .t 6⟩]), none⟩,
  ⟨none, .s (.store 2 (.t 2) (.t 7)), none⟩] [2])
 (.ret))
def Be8 : List VR := [.cell 2 true 2]
theorem BjS : Tryz.f9.body.bind (trC Tryz.prog Tryz.f9.ntmps) = some (er Bfj) := by kernel_rfl
theorem BiY : trR Tryz.prog Tryz.f9.results.toList = some Be8 := by kernel_rfl
def BhR := A3a Bfj.eq_1
theorem Bho {K : TV → Prop} {e : Env} {H : List Ob} : res Be8 e H K = res [.cell 2 true 2] e H K := A29 rfl
def Bjm := (And.intro @BhR @Bho)
def Bim := A7f 8 Tryz.func9 BjS BiY rfl

end Go.Proofs.YtmlompedpahkjaaGreatDoor


namespace Go.Proofs.YtmlompedpahkjaaGreatDoor
variable [A4e]
set_option linter.unusedSectionVars false
set_option linter.unusedVariables false
set_option linter.defProp false
set_option maxRecDepth 100000

def Bis : A3d := .seq (.ops [po_ 2 (.mov (ci_ 0))] [0])
 (.seq (.ops [so_ 3 (.alloc (.val (.int .i64 ((0 : Nat) : Int))))] [0, 3])
 (.seq (.block 0 (.seq (.ops [mv_ 5 0,
  po_ 6 (.eqN 1 (.t 5) (.c .nilIface) false),
  mv_ 4 6] [0, 3, 4])
 (.cond (.t 4)
 (.seq (.ops [po_ 2 (.mov (ci_ 0))] [2])
  (.ret))
 (.seq (.ops [mv_ 8 0,
   po_ 9 (.iface 52 (.t 3)),
   so_ 10 (.call 17 [.t 8, .t 9]),
   mv_ 7 10] [3, 7])
  (.cond (.t 7)
  (.seq (.ops [po_ 11 (.load false 1 (.t 3)),
    mv_ 2 11] [2])
   (.ret))
  (.skip))))))
 (.seq (.ops [po_ 2 (.mov (.c (.int .i64 (-1))))] [2])
 (.ret))))
def BiB : List VR := [.tmp 2]
theorem Bnl : Tryz.f7.body.bind (trC Tryz.prog Tryz.f7.ntmps) = some (er Bis) := by kernel_rfl
theorem Bm8 : trR Tryz.prog Tryz.f7.results.toList = some BiB := by kernel_rfl
def BkQ := A3a Bis.eq_1
theorem Bj5 {K : TV → Prop} {e : Env} {H : List Ob} : res BiB e H K = res [.tmp 2] e H K := A29 rfl
def Bf4 := (And.intro @BkQ @Bj5)
def BhN := A7f 12 Tryz.func7 Bnl Bm8 rfl

def Bcw : A3d := .seq (.ops [mv_ 13 4,
  mv_ 14 3,
  po_ 15 (.idxA 1 (.t 13) (.t 14)),
  ⟨none, .s (.store 1 (.t 15) (.c (.int .u8 ((71 : Nat) : Int)))), none⟩] [3, 4])
 (.seq (.ops [mv_ 16 4,
  mv_ 17 3,
  po_ 18 (.bin 3 .add (.t 17) (ci_ 1)),
  po_ 19 (.idxA 1 (.t 16) (.t 18)),
  ⟨none, .s (.store 1 (.t 19) (.c (.int .u8 ((72 : Nat) : Int)))), none⟩] [3, 4])
 (.seq (.ops [mv_ 20 4,
  mv_ 21 3,
  po_ 22 (.slV 1 (.t 20) none (some (.t 21))),
  mv_ 2 22] [2])
 (.ret)))
def Bcv : A3d := .seq (.ops [mv_ 10 4,
  mv_ 11 0,
  so_ 12 (.copy 1 (.t 10) (.t 11))] [3, 4])
 Bcw
def BcR : A3d := .seq (.ops [mv_ 7 3,
  po_ 8 (.bin 3 .add (.t 7) (ci_ 2)),
  so_ 9 (.mks 1 1 (.val (.int .u8 ((0 : Nat) : Int))) (.t 8) (.t 8)),
  mv_ 4 9] [0, 3, 4])
 Bcv
def BcP : A3d := .seq (.ops [mv_ 5 0,
  po_ 6 (.lenV (.t 5)),
  mv_ 3 6] [0, 3])
 BcR
def Bgx : A3d := .seq (.ops [po_ 2 (.mov (.c (.slice none 0 0)))] [0])
 BcP
def Bgp : List VR := [.tmp 2]
theorem Bkn : Tryz.f4.body.bind (trC Tryz.prog Tryz.f4.ntmps) = some (er Bgx) := by kernel_rfl
theorem Bkp : trR Tryz.prog Tryz.f4.results.toList = some Bgp := by kernel_rfl
def Bga := A3a Bcw.eq_1
def Bf6 := A3a Bcv.eq_1
def BfN := A3a BcR.eq_1
def BfL := A3a BcP.eq_1
def Bib := A3a Bgx.eq_1
theorem Bh5 {K : TV → Prop} {e : Env} {H : List Ob} : res Bgp e H K = res [.tmp 2] e H K := A29 rfl
def Bj6 := (And.intro (And.intro (And.intro @Bga @Bf6) (And.intro @BfN @BfL)) (And.intro @Bib @Bh5))
def Bjp := A7f 23 Tryz.func4 Bkn Bkp rfl

def Bco : A3d := .seq (.seq (.ops [mv_ 36 8,
  mv_ 37 6,
  po_ 38 (.lenV (.t 37)),
  po_ 39 (.bin 3 .lss (.t 36) (.t 38))] [6, 7, 8, 39])
 (.cond (.t 39)
 (.skip)
 (.exit 0)))
 (.seq (.block 1 (.ops [mv_ 42 6,
  mv_ 43 8,
  mv_ 44 6,
  mv_ 45 8,
  po_ 46 (.idxA 1 (.t 44) (.t 45)),
  po_ 47 (.load false 1 (.t 46)),
  po_ 48 (.bin 5 .xor (.t 47) (.c (.int .u8 ((85 : Nat) : Int)))),
  po_ 49 (.idxA 1 (.t 42) (.t 43)),
  ⟨none, .s (.store 1 (.t 49) (.t 48)), none⟩] [6, 7, 8]))
 (.ops [mv_ 40 8,
  po_ 41 (.bin 3 .add (.t 40) (ci_ 1)),
  mv_ 8 41] [6, 7, 8]))
def BcO : A3d := .block 0 (.loop [6, 7, 8] Bco)
def Bci : A3d := .seq (.ops [mv_ 50 7,
  mv_ 4 50] [4])
 (.ret)
def BcF : A3d := .seq (.seq (.ops [po_ 8 (.mov (ci_ 0))] [6, 7, 8])
 BcO)
 Bci
def Bcu : A3d := .seq (.ops [mv_ 20 7,
  mv_ 21 20,
  ⟨some 22, .p (.mov (.t 6)), some ⟨21, true⟩⟩,
  ⟨some 23, .p (.mov (.t 5)), some ⟨21, true⟩⟩,
  ⟨some 24, .p (.idxA 1 (.t 22) (.t 23)), some ⟨21, true⟩⟩,
  ⟨some 25, .p (.load false 1 (.t 24)), some ⟨21, true⟩⟩,
  ⟨some 26, .p (.bin 5 .eql (.t 25) (.c (.int .u8 ((71 : Nat) : Int)))), some ⟨21, true⟩⟩,
  po_ 27 (.pick (.t 21) (.t 26) (.c (.bool false))),
  mv_ 28 27,
  ⟨some 29, .p (.mov (.t 6)), some ⟨28, true⟩⟩,
  ⟨some 30, .p (.mov (.t 5)), some ⟨28, true⟩⟩,
  ⟨some 31, .p (.bin 3 .add (.t 30) (ci_ 1)), some ⟨28, true⟩⟩,
  ⟨some 32, .p (.idxA 1 (.t 29) (.t 31)), some ⟨28, true⟩⟩,
  ⟨some 33, .p (.load false 1 (.t 32)), some ⟨28, true⟩⟩,
  ⟨some 34, .p (.bin 5 .eql (.t 33) (.c (.int .u8 ((72 : Nat) : Int)))), some ⟨28, true⟩⟩,
  po_ 35 (.pick (.t 28) (.t 34) (.c (.bool false))),
  mv_ 7 35] [6, 7])
 BcF
def Bck : A3d := .seq (.ops [mv_ 15 6,
  mv_ 16 5,
  po_ 17 (.slV 1 (.t 15) none (some (.t 16))),
  mv_ 18 1,
  so_ 19 (.call 12 [.t 17, .t 18]),
  mv_ 7 19] [5, 6, 7])
 Bcu
def Bcq : A3d := .seq (.ops [mv_ 11 0,
  mv_ 12 5,
  po_ 13 (.bin 3 .add (.t 12) (ci_ 2)),
  po_ 14 (.slV 1 (.t 11) none (some (.t 13))),
  mv_ 6 14] [1, 5, 6])
 Bck
def Bcn : A3d := .seq (.ops [mv_ 9 1,
  po_ 10 (.lenV (.t 9)),
  mv_ 5 10] [0, 1, 5])
 Bcq
def Bgz : A3d := .seq (.ops [po_ 4 (.mov (.c (.bool false)))] [0, 1])
 Bcn
def Bgw : List VR := [.tmp 4]
theorem BkD : Tryz.f8.body.bind (trC Tryz.prog Tryz.f8.ntmps) = some (er Bgz) := by kernel_rfl
theorem BkW : trR Tryz.prog Tryz.f8.results.toList = some Bgw := by kernel_rfl
def BfR := A3a Bco.eq_1
def BfS := A3a BcO.eq_1
def Bgf := A3a Bci.eq_1
def Bf3 := A3a BcF.eq_1
def Bgb := A3a Bcu.eq_1
def BfO := A3a Bck.eq_1
def Bf5 := A3a Bcq.eq_1
def Bgi := A3a Bcn.eq_1
def Bia := A3a Bgz.eq_1
theorem Bif {K : TV → Prop} {e : Env} {H : List Ob} : res Bgw e H K = res [.tmp 4] e H K := A29 rfl
def A9z := (And.intro (And.intro (And.intro (And.intro @BfR @BfS) (And.intro @Bgf @Bf3)) (And.intro (And.intro @Bgb @BfO) (And.intro @Bf5 @Bgi))) (And.intro @Bia @Bif))
def BiZ := A7f 51 Tryz.func8 BkD BkW rfl

def BdE : A3d := .seq (.block 1 (.seq (.draw 4 [mv_ 17 0,
  mv_ 18 5,
  po_ 19 (.idxA 1 (.t 17) (.t 18)),
  po_ 20 (.load false 1 (.t 19)),
  mv_ 21 1,
  mv_ 22 5,
  po_ 23 (.idxA 1 (.t 21) (.t 22)),
  po_ 24 (.load false 1 (.t 23)),
  po_ 25 (.bin 5 .neq (.t 20) (.t 24))] [0, 1, 5, 25])
 (.cond (.t 25)
 (.seq (.ops [po_ 4 (.mov (.c (.bool false)))] [4])
  (.ret))
 (.skip))))
 (.ops [mv_ 15 5,
  po_ 16 (.bin 3 .add (.t 15) (ci_ 1)),
  mv_ 5 16] [0, 1, 5])
def BdJ : A3d := .seq (.seq (.ops [mv_ 11 5,
  mv_ 12 0,
  po_ 13 (.lenV (.t 12)),
  po_ 14 (.bin 3 .lss (.t 11) (.t 13))] [0, 1, 5, 14])
 (.cond (.t 14)
 (.skip)
 (.exit 0)))
 BdE
def Bdr : A3d := .block 0 (.loop [0, 1, 5] BdJ)
def BdD : A3d := .seq (.ops [po_ 4 (.mov (.c (.bool true)))] [4])
 (.ret)
def Bdt : A3d := .seq (.seq (.ops [po_ 5 (.mov (ci_ 0))] [0, 1, 5])
 Bdr)
 BdD
def Bdz : A3d := .seq (.seq (.ops [mv_ 6 0,
  po_ 7 (.lenV (.t 6)),
  mv_ 8 1,
  po_ 9 (.lenV (.t 8)),
  po_ 10 (.bin 3 .neq (.t 7) (.t 9))] [0, 1, 10])
 (.cond (.t 10)
 (.seq (.ops [po_ 4 (.mov (.c (.bool false)))] [4])
  (.ret))
 (.skip)))
 Bdt
def BhU : A3d := .seq (.ops [po_ 4 (.mov (.c (.bool false)))] [0, 1])
 Bdz
def Bhv : List VR := [.tmp 4]
theorem Bls : Tryz.f12.body.bind (trC Tryz.prog Tryz.f12.ntmps) = some (er BhU) := by kernel_rfl
theorem BlT : trR Tryz.prog Tryz.f12.results.toList = some Bhv := by kernel_rfl
def BgK := A3a BdE.eq_1
def BgY := A3a BdJ.eq_1
def BgC := A3a Bdr.eq_1
def BgZ := A3a BdD.eq_1
def BgH := A3a Bdt.eq_1
def BgF := A3a Bdz.eq_1
def BjZ := A3a BhU.eq_1
theorem Bjk {K : TV → Prop} {e : Env} {H : List Ob} : res Bhv e H K = res [.tmp 4] e H K := A29 rfl
def A85 := (And.intro (And.intro (And.intro @BgK @BgY) (And.intro @BgC @BgZ)) (And.intro (And.intro @BgH @BgF) (And.intro @BjZ @Bjk)))
def BkG := A7f 26 Tryz.func12 Bls BlT rfl

end Go.Proofs.YtmlompedpahkjaaGreatDoor


namespace Go.Proofs.YtmlompedpahkjaaGreatDoor
open Go.RowKit
variable [A4e]
set_option linter.unusedSectionVars false
set_option linter.unusedVariables false
set_option linter.unusedSimpArgs false

theorem BpS {l m : List UInt8} {k : Nat} (h : l.take k = m.take k) (h1 : k < l.length) (h2 : k < m.length) (e : l[k] = m[k]) : l.take (k + 1) = m.take (k + 1) := by
 rw [List.take_succ_eq_append_getElem h1, List.take_succ_eq_append_getElem h2, h, e]
theorem BBG {x y : UInt8} (h : x ≠ y) : ¬ (x.toNat = y.toNat) := fun e => h (UInt8.toNat_inj.1 e)

/-- Same: the same bytes? -/
theorem same (l m : List UInt8) (hl : l.length ≤ 9223372036854775807) (hm : m.length ≤ 9223372036854775807) : A4p Tryz.prog 12 [slB l, slB m] (fun x => x = tb (decide (l = m))) := by
 refine A3p.toPureV (BkG (by simp) ?_)
 by_cases hlen : l.length = m.length
 case neg =>
  have hne : l ≠ m := fun e => hlen (by rw [e])
  simp -dsimp (disch := first | assumption | omega) only [↓A3g, A3c, A3e, A3f, eq_self, forall_const, Nat.reduceLT, Nat.reduceEqDiff, Nat.reduceSub, Nat.reduceMul, Nat.reduceMod, Nat.reduceDiv, Nat.reducePow, UInt8.reduceToNat, Int.reduceEq, Int.reduceLT, Int.reduceLE, ↓reduceIte, Nat.reduceAdd, Int.reduceToNat, reduceCtorEq, Nat.reduceLeDiff, ↓A85, decide_eq_false hne]
 simp -dsimp (disch := first | assumption | omega) only [↓A3g, A3c, A3e, A3f, eq_self, forall_const, Nat.reduceLT, Nat.reduceEqDiff, Nat.reduceSub, Nat.reduceMul, Nat.reduceMod, Nat.reduceDiv, Nat.reducePow, UInt8.reduceToNat, Int.reduceEq, Int.reduceLT, Int.reduceLE, ↓reduceIte, Nat.reduceAdd, Int.reduceToNat, reduceCtorEq, Nat.reduceLeDiff, ↓A85]
 refine Bgt (fun n e H => ∃ (k : Nat), n = l.length - k ∧ k ≤ l.length ∧ l.take k = m.take k ∧ e = [(0, slB l), (1, slB m), (5, i64 (k : Int))] ∧ H = []) l.length ?_ ?_
 ·exact ⟨0, by simp, by omega, by simp, rfl, rfl⟩
 ·rintro n e H ⟨k, rfl, hk, ht, rfl, rfl⟩
  by_cases hkl : k < l.length
  ·have hkm : k < m.length := by omega
   have g1 : l[k]? = some l[k] := by simp [hkl]
   have g2 : m[k]? = some m[k] := by simp [hkm]
   by_cases he : l[k] = m[k]
   ·have hx := BpS ht hkl hkm he
    have he' : l[k].toNat = m[k].toNat := by rw [he]
    simp -dsimp (disch := first | assumption | omega) only [↓A3g, A3c, A3e, A3f, eq_self, forall_const, Nat.reduceLT, Nat.reduceEqDiff, Nat.reduceSub, Nat.reduceMul, Nat.reduceMod, Nat.reduceDiv, Nat.reducePow, UInt8.reduceToNat, Int.reduceEq, Int.reduceLT, Int.reduceLE, ↓reduceIte, Nat.reduceAdd, Int.reduceToNat, reduceCtorEq, Nat.reduceLeDiff, ↓A85, g1, g2]
    exact A6g (l.length - (k + 1)) (by omega) (by simp) ⟨k + 1, rfl, by omega, hx, rfl, rfl⟩
   ·have he' := BBG he
    have hne : l ≠ m := fun e => he (by subst e; rfl)
    simp -dsimp (disch := first | assumption | omega) only [↓A3g, A3c, A3e, A3f, eq_self, forall_const, Nat.reduceLT, Nat.reduceEqDiff, Nat.reduceSub, Nat.reduceMul, Nat.reduceMod, Nat.reduceDiv, Nat.reducePow, UInt8.reduceToNat, Int.reduceEq, Int.reduceLT, Int.reduceLE, ↓reduceIte, Nat.reduceAdd, Int.reduceToNat, reduceCtorEq, Nat.reduceLeDiff, ↓A85, g1, g2, decide_eq_false hne]
  ·have hke : k = l.length := by omega
   have heq : l = m := by rw [hke, List.take_length, hlen, List.take_length] at ht; exact ht
   simp -dsimp (disch := first | assumption | omega) only [↓A3g, A3c, A3e, A3f, eq_self, forall_const, Nat.reduceLT, Nat.reduceEqDiff, Nat.reduceSub, Nat.reduceMul, Nat.reduceMod, Nat.reduceDiv, Nat.reducePow, UInt8.reduceToNat, Int.reduceEq, Int.reduceLT, Int.reduceLE, ↓reduceIte, Nat.reduceAdd, Int.reduceToNat, reduceCtorEq, Nat.reduceLeDiff, ↓A85, decide_eq_true heq]
/-- Roomy: the same bytes, with two more in their spare room. -/
theorem BuS (l : List UInt8) (hl : l.length ≤ 1000000) {H : List Ob} {K : TV → List Ob → Prop} (hk : K (.os 1 H.length 0 [] 0 l.length (l.length + 2)) (H ++ [.obj 0 (.arr (l.length + 2) 1 ((l ++ [71, 72]).map by8))])) :
  A3p Tryz.prog 4 [slB l] H K := by
 refine Bjp (by simp) ?_
 have c2 : ((l.length : Int) + 2) = ((l.length + 2 : Nat) : Int) := by omega
 have b1 : ((1 : Nat) : Int) * ((l.length + 2 : Nat) : Int) ≤ 281474976710656 := by omega
 have b2 : ((l.length + 2 : Nat) : Int) ≤ 9223372036854775807 := by omega
 have z : ∀ n : Nat, List.replicate n (TV.val (.int .u8 ((0 : Nat) : Int))) = (List.replicate n (0 : UInt8)).map by8 := fun n => by rw [List.map_replicate]; rfl
 have e1 : List.map by8 l ++ List.drop (min l.length (l.length + 2)) (List.replicate (l.length + 2) (TV.val (.int .u8 ((0 : Nat) : Int)))) = (l ++ [0, 0]).map by8 := by
  rw [z, ← List.map_drop, ← List.map_append, Nat.min_eq_left (by omega), List.drop_replicate, show l.length + 2 - l.length = 2 from by omega]; rfl
 have e2 : ((l ++ [0, 0]).map by8).set l.length (.val (.int .u8 ((71 : Nat) : Int))) = (l ++ [71, 0]).map by8 := by
  rw [List.map_append, List.set_append_right _ _ (by simp), List.map_append]; simp
 have e3 : ((l ++ [71, 0]).map by8).set (l.length + 1) (.val (.int .u8 ((72 : Nat) : Int))) = (l ++ [71, 72]).map by8 := by
  rw [List.map_append, List.set_append_right _ _ (by simp), List.map_append]; simp
 have g1 : ((l ++ [0, 0]).map by8)[l.length]? = some (by8 0) := by simp
 have g2 : ((l ++ [71, 0]).map by8)[l.length + 1]? = some (by8 0) := by simp
 simp -dsimp (disch := first | assumption | omega | (simp only [A3b]; done) | (simp only [A3b]; omega)) only [↓A3g, A3c, A3e, A3f, eq_self, forall_const, Nat.reduceLT, Nat.reduceEqDiff, Nat.reduceSub, Nat.reduceMul, Nat.reduceMod, Nat.reduceDiv, Nat.reducePow, UInt8.reduceToNat, Int.reduceEq, Int.reduceLT, Int.reduceLE, ↓reduceIte, Nat.reduceAdd, Int.reduceToNat, reduceCtorEq, Nat.reduceLeDiff, ↓Bj6, c2, e1, e2, e3, g1, g2]
 exact hk
abbrev x85 (l : List UInt8) : List UInt8 := l.map (· ^^^ 85)
theorem Bty {c : List UInt8} {k : Nat} (hk : k < c.length) : (x85 (c.take k) ++ c.drop k).set k (c[k] ^^^ 85) = x85 (c.take (k + 1)) ++ c.drop (k + 1) := by
 have h1 : (x85 (c.take k)).length = k := by simp; omega
 rw [List.set_append_right _ _ (by omega), h1, Nat.sub_self, List.drop_eq_getElem_cons hk, List.set_cons_zero, List.take_succ_eq_append_getElem hk, x85, x85, List.map_append, List.append_assoc]
 rfl

/-- Still: aS they were; then their owner writes into them. -/
theorem Bij (l : List UInt8) (hl : l.length ≤ 1000000) {H : List Ob} {id ver : Nat} {K : TV → List Ob → Prop} (ho : H[id]? = some (.obj ver (.arr (l.length + 2) 1 ((l ++ [71, 72]).map by8))))
  (hk : K (tb true) (H.set id (.obj ver (.arr (l.length + 2) 1 ((x85 (l ++ [71, 72])).map by8))))) :
  A3p Tryz.prog 8 [.os 1 id ver [] 0 l.length (l.length + 2), slB l] H K := by
 refine BiZ (by simp) ?_
 have hid : id < H.length := (List.getElem?_eq_some_iff.1 ho).1
 have c2 : ((l.length : Int) + 2) = ((l.length + 2 : Nat) : Int) := by omega
 have g1 : (l ++ [71, 72])[l.length]? = some 71 := by simp
 have g2 : (l ++ [71, 72])[l.length + 1]? = some 72 := by simp
 have hL : (l ++ [71, 72]).length = l.length + 2 := by simp
 have ht : (l ++ [71, 72]).take l.length = l := by simp
 generalize hc : l ++ [71, 72] = c at *
 simp -dsimp (disch := first | assumption | omega | (simp only [A3b]; done) | (simp only [A3b]; omega)) only [↓A3g, A3c, A3e, A3f, eq_self, forall_const, Nat.reduceLT, Nat.reduceEqDiff, Nat.reduceSub, Nat.reduceMul, Nat.reduceMod, Nat.reduceDiv, Nat.reducePow, UInt8.reduceToNat, Int.reduceEq, Int.reduceLT, Int.reduceLE, ↓reduceIte, Nat.reduceAdd, Int.reduceToNat, reduceCtorEq, Nat.reduceLeDiff, ↓A9z, c2, ho]
 refine (same l l (by omega) (by omega)).lends (args' := [slB l, slB l]) (by simp -dsimp (disch := first | assumption | omega) only [↓A3g, A3c, A3e, A3f, eq_self, forall_const, Nat.reduceLT, Nat.reduceEqDiff, Nat.reduceSub, Nat.reduceMul, Nat.reduceMod, Nat.reduceDiv, Nat.reducePow, UInt8.reduceToNat, Int.reduceEq, Int.reduceLT, Int.reduceLE, ↓reduceIte, Nat.reduceAdd, Int.reduceToNat, reduceCtorEq, Nat.reduceLeDiff, ho, hL, ht]) ?_
 rintro x rfl
 refine ⟨rfl, ?_⟩
 rw [show tb (decide (l = l)) = tb true from by simp]
 simp -dsimp (disch := first | assumption | omega | (simp only [A3b]; done) | (simp only [A3b]; omega)) only [↓A3g, A3c, A3e, A3f, eq_self, forall_const, Nat.reduceLT, Nat.reduceEqDiff, Nat.reduceSub, Nat.reduceMul, Nat.reduceMod, Nat.reduceDiv, Nat.reducePow, UInt8.reduceToNat, Int.reduceEq, Int.reduceLT, Int.reduceLE, ↓reduceIte, Nat.reduceAdd, Int.reduceToNat, reduceCtorEq, Nat.reduceLeDiff, ↓A9z, ho, g1, g2]
 ·refine Bgt (fun n e H' => ∃ (k : Nat), n = c.length - k ∧ k ≤ c.length ∧ e = [(6, .os 1 id ver [] 0 (l.length + 2) (l.length + 2)), (7, tb true), (8, i64 (k : Int))] ∧ H' = H.set id (.obj ver (.arr (l.length + 2) 1 ((x85 (c.take k) ++ c.drop k).map by8)))) c.length ?_ ?_
  ·refine ⟨0, by simp, by omega, rfl, ?_⟩
   have e0 : x85 (c.take 0) ++ c.drop 0 = c := by simp
   obtain ⟨h1, h2⟩ := List.getElem?_eq_some_iff.1 ho
   rw [e0, ← h2, List.set_getElem_self]
  ·rintro n e H' ⟨k, rfl, hkl, rfl, rfl⟩
   have gs : ∀ o, (H.set id o)[id]? = some o := fun o => by simp [hid]
   by_cases hkc : k < c.length
   ·have hk2 : k < l.length + 2 := by omega
    have hlen : (x85 (c.take k)).length = k := by simp; omega
    have g3 : (x85 (c.take k) ++ c.drop k)[k]? = some c[k] := by
     rw [List.getElem?_append_right (by omega), hlen, Nat.sub_self, List.getElem?_drop]; simp [hkc]
    have g4 := Bty hkc
    have h85 : ∀ (t : TypeId) (x : UInt8), A6b t .xor (.int .u8 (x.toNat : Int)) (.int .u8 ((85 : Nat) : Int)) = some (.int .u8 ((x ^^^ 85).toNat : Int)) := fun t x => Bua (t := t) (x := x) (y := 85)
    generalize x85 (c.take k) ++ c.drop k = r at *
    generalize c[k] = y at *
    simp -dsimp (disch := first | assumption | omega | (simp only [A3b]; done) | (simp only [A3b]; omega)) only [↓A3g, A3c, A3e, A3f, eq_self, forall_const, Nat.reduceLT, Nat.reduceEqDiff, Nat.reduceSub, Nat.reduceMul, Nat.reduceMod, Nat.reduceDiv, Nat.reducePow, UInt8.reduceToNat, Int.reduceEq, Int.reduceLT, Int.reduceLE, ↓reduceIte, Nat.reduceAdd, Int.reduceToNat, reduceCtorEq, Nat.reduceLeDiff, ↓A9z, gs, g3, g4, h85, BrZ, List.set_set]
    exact A6g (c.length - (k + 1)) (by omega) (by simp) ⟨k + 1, rfl, by omega, rfl, rfl⟩
   ·have hke : k = c.length := by omega
    have hk2 : ¬ k < l.length + 2 := by omega
    have e0 : x85 (c.take k) ++ c.drop k = x85 c := by rw [hke, List.take_length, List.drop_length, List.append_nil]
    have e1 : List.drop k c = [] := by rw [hke, List.drop_length]
    simp -dsimp (disch := first | assumption | omega | (simp only [A3b]; done) | (simp only [A3b]; omega)) only [↓A3g, A3c, A3e, A3f, eq_self, forall_const, Nat.reduceLT, Nat.reduceEqDiff, Nat.reduceSub, Nat.reduceMul, Nat.reduceMod, Nat.reduceDiv, Nat.reducePow, UInt8.reduceToNat, Int.reduceEq, Int.reduceLT, Int.reduceLE, ↓reduceIte, Nat.reduceAdd, Int.reduceToNat, reduceCtorEq, Nat.reduceLeDiff, ↓A9z]
    rw [e1, List.append_nil]
    exact hk
end Go.Proofs.YtmlompedpahkjaaGreatDoor

