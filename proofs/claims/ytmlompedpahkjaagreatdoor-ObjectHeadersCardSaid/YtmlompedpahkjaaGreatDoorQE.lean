/- What the proof of ObjectHeadersCard stands on (texts merged; names shortened by a program): part 5. -/
import Derived.Test.YtmlompedpahkjaaGreatDoorQD
import Derived.ProofKit
import Derived.OpenShut
import Derived.ShutString
import Derived.ChangeOld
import Derived.Below
import Derived.Carry
import Derived.SizedLaws
import Derived.Lib.LaidTab
import Derived.LaidHandle
import Derived.Test.YtmlompedpahkjaaGreatDoorProg
import Derived.Lib.ItoaNum
import Derived.Lib.ItoaLen
import Derived.KernelRfl
import Derived.Shelf.Strconv.Itoa0
import Derived.Shelf.Strconv.Itoa1
import Derived.Shelf.LaysM
import Derived.Shelf.Strconv.Itoa2
import Derived.Shelf.Strconv.Itoa3
import Derived.Shelf.Strconv.Clone
import Derived.Shelf.Strconv.SyntaxError
import Derived.Shelf.LaysC
import Derived.Shelf.Strconv.ToError
import Derived.Shelf.Strconv.Lower
import Derived.Shelf.Strconv.RangeError
import Derived.Shelf.Strconv.ToErrorRange
import Derived.Shelf.Strings.Search1
import Derived.Shelf.Bytes.SlIndexSmall
import Derived.Shelf.Bytes.SlIndexAt
import Derived.Shelf.Bytes.SlSearch0
import Derived.Shelf.Bytes.SlSearch1
import Derived.Shelf.Bytes.SlSearch2
import Derived.Shelf.Bytes.SlIndexWhole
import Derived.Shelf.Bytes.SlEqualAll
import Derived.Ground.SlbtProg
import Derived.Shelf.Bytes.SlCut
import Derived.Shelf.Bytes.Small
import Derived.Shelf.Bytes.IndexByte
import Derived.WalkKit
import Derived.WalkSpells
import Derived.WalkLawsBesides
import Derived.Lib.Hide
import Derived.Deep.QuietTactic
import Derived.BigQuiet
import Derived.Deep.OwnRows
import Derived.Laws.CopyOwn
import Derived.Laws.BitsAllLaws
import Derived.Laws.EntriesVeiled
import Derived.Deep.DeepCutAuto
import Derived.Deep.Light
import Derived.Deep.CutBlock
import Derived.StillTailTactics
import Derived.IntWalk
import Derived.Deep.AppendSrc
import Derived.Deep.Upon
namespace Go.Proofs.YtmlompedpahkjaaGreatDoor
open Go.RowKit Go.WideShapes Go.ChangeShapes
variable [A4e]
set_option linter.unusedSectionVars false
set_option linter.unusedVariables false
set_option linter.unusedSimpArgs false
set_option autoImplicit false

/-- All A33 that are there stay aS they are. -/
def came (w : World) : Ctx := ⟨fun _ _ => none, [], fun b => b < w.heap.size⟩
/-- All data of a type have a reading of this form. -/
def BbU (P : Program) (t : TypeId) {α : Type} (f : α → TV) (ok : α → Prop) : Prop :=
 ∀ {H : Type} (enc : TypeId × Value → H) (w : World) (fuel : Nat) (cs : List Value) (d : DataW H) (ps : List MemPlace),
  DataW.trod enc P w 0 (fun _ => true) true fuel t cs = some (d, ps) → (d.weights P t).all (· ≤ reachBytes) = true → ∃ a, A3i (came w) w (f a) cs ∧ ok a

theorem Bj9 {α β : Type} {f : α → Option β} : ∀ {l : List α} {xs : List β}, l.mapM f = some xs → xs.length = l.length ∧ ∀ (i : Nat) a, l[i]? = some a → ∃ x, xs[i]? = some x ∧ f a = some x
 | [], xs, h => by simp at h; subst h; simp
 | a :: l, xs, h => by
  rw [List.mapM_cons] at h
  cases hf : f a with
  | none => rw [hf] at h; cases h
  | some y =>
   rw [hf] at h
   cases hl : l.mapM f with
   | none => rw [hl] at h; cases h
   | some ys =>
    rw [hl] at h
    have e : xs = y :: ys := by simpa using h.symm
    subst e
    obtain ⟨h1, h2⟩ := Bj9 hl
    refine ⟨by simp [h1], fun i b hb => ?_⟩
    cases i with
    | zero => simp at hb; subst hb; exact ⟨y, by simp, hf⟩
    | succ i => simpa using h2 i b (by simpa using hb)
theorem Bf7 {β : Type} {f : Nat → Option β} {n : Nat} {xs : List β} (h : (List.range n).mapM f = some xs) : xs.length = n ∧ ∀ i, i < n → ∃ x, xs[i]? = some x ∧ f i = some x := by
 obtain ⟨h1, h2⟩ := Bj9 h
 exact ⟨by simpa using h1, fun i hi => h2 i i (by simp [hi])⟩

section
variable {P : Program} {t e : TypeId}
theorem Bjl {H : Type} {enc : TypeId × Value → H} {w : World} {fuel : Nat} {cs : List Value} {x : DataW H × List MemPlace} (h : DataW.trod enc P w 0 (fun _ => true) true fuel t cs = some x) : ∃ n, fuel = n + 1 := by
 cases fuel with
 | zero => simp [DataW.trod] at h
 | succ n => exact ⟨n, rfl⟩

theorem Biw {k : IntKind} (ht : P.underlying t = some (.int k)) : BbU P t (fun n => .val (.int k n)) (fun n => (Lit.int k n).wf = true) := by
 intro H enc w fuel cs d ps h _
 obtain ⟨n, rfl⟩ := Bjl h
 unfold DataW.trod at h; rw [ht] at h
 split at h <;> rename_i h1 <;> try (simp at h1; done)
 all_goals try (cases h; done)
 all_goals try (simp only [Option.some.injEq, TypeDesc.int.injEq] at h1)
 all_goals first
  | (subst h1; split at h; (rename_i hc; obtain ⟨rfl, hw⟩ := hc; cases h; exact ⟨_, by rw [A3i]; exact ⟨rfl, rfl⟩, hw⟩); cases h)
  | (simp at h1; done)
  | (simp at h; done)
end

theorem BdI {H : Type} {P : Program} {e : TypeId} {d : DataW H} {n : Nat} (hn : n ∈ d.weights P e) : ∀ {ds : List (DataW H)}, d ∈ ds → n ∈ DataW.weightsAll P e ds
 | d0 :: ds, h => by
  simp only [DataW.weightsAll, List.mem_append]
  rcases List.mem_cons.1 h with rfl | h
  ·exact Or.inl hn
  ·exact Or.inr (BdI hn h)
theorem A82 {l m : List Nat} (h : m.all (· ≤ reachBytes) = true) (hs : ∀ n ∈ l, n ∈ m) : l.all (· ≤ reachBytes) = true := List.all_eq_true.2 fun n hn => List.all_eq_true.1 h n (hs n hn)

theorem Bwd (a : Addr) (i j : Nat) : (a.add i).add j = a.add (i + j) := by
 unfold Addr.add
 by_cases h1 : i = 0 <;> by_cases h2 : j = 0 <;> simp [h1, h2, Nat.add_assoc]
theorem BqY (b off i : Nat) : (⟨b, off, none⟩ : Addr).add i = ⟨b, off + i, none⟩ := by
 unfold Addr.add
 by_cases h1 : i = 0 <;> simp [h1]
theorem BnD {w : World} {a : Addr} {n : Nat} {us : List Value} (h : w.cells? 0 a n = some us) : us.length = n ∧ ∀ i, i < n → ∃ u, us[i]? = some u ∧ w.cell? (a.add i) = some u := by
 unfold World.cells? at h
 rw [if_pos (Nat.zero_le _)] at h
 exact Bf7 h

/-- Elements that lie one behind the other. -/
theorem Bk5 {α : Type} {f : α → TV} {ok : α → Prop} {k : Nat} (hw : ∀ a, ok a → A3r (f a) = k) {w : World} {b off : Nat} : ∀ (n i0 : Nat), (∀ i, i < n → ∃ us a, A3i (came w) w (f a) us ∧ ok a ∧ us.length = k ∧ A4v w b (off + (i0 + i) * k) us) →
  ∃ (l : List α) (us : List Value), l.length = n ∧ (∀ a ∈ l, ok a) ∧ A3j (came w) w (l.map f) us ∧ us.length = n * k ∧ A4v w b (off + i0 * k) us
 | 0, i0, _ => ⟨[], [], rfl, by simp, by rw [List.map_nil, A3j], by simp, fun j u h => by simp at h⟩
 | n + 1, i0, h => by
  obtain ⟨us, a, h1, h2, h3, h4⟩ := h 0 (by omega)
  obtain ⟨l, vs, k1, k2, k3, k4, k5⟩ := Bk5 hw n (i0 + 1) (fun i hi => by
   obtain ⟨us, a, h1, h2, h3, h4⟩ := h (i + 1) (by omega)
   exact ⟨us, a, h1, h2, h3, by rw [show i0 + 1 + i = i0 + (i + 1) from by omega]; exact h4⟩)
  refine ⟨a :: l, us ++ vs, by simp [k1], fun c hc => ?_, ?_, ?_, ?_⟩
  ·rcases List.mem_cons.1 hc with rfl | hc
   ·exact h2
   ·exact k2 c hc
  ·rw [List.map_cons, A3j]; exact ⟨us, vs, rfl, h1, k3⟩
  ·rw [List.length_append, h3, k4, Nat.succ_mul, Nat.add_comm]
  ·intro j u hj
   by_cases hjk : j < k
   ·rw [List.getElem?_append_left (by omega)] at hj
    have := h4 j u hj
    rwa [Nat.add_zero] at this
   ·rw [List.getElem?_append_right (by omega), h3] at hj
    have := k5 (j - k) u hj
    rw [show off + (i0 + 1) * k + (j - k) = off + i0 * k + j from by rw [Nat.succ_mul]; omega] at this
    exact this

section
variable {P : Program} {t e : TypeId} {α : Type} {f : α → TV} {ok : α → Prop} {k B : Nat}
theorem Bkq (ht : P.underlying t = some (.slice e)) (hk : P.cellsOf e = k) (hB : P.bytesOf e = B) (hc : BbU P e f ok) (hw : ∀ a, ok a → A3r (f a) = k) (h0 : k ≠ 0) :
  BbU P t (fun l : List α => .sl k (l.map f)) (fun l => (∀ a ∈ l, ok a) ∧ l.length * B ≤ 140737488351232 ∧ l.length ≤ 9223372036854775807) := by
 intro H enc w fuel cs d ps h hwt
 obtain ⟨n, rfl⟩ := Bjl h
 unfold DataW.trod at h; rw [ht] at h
 split at h <;> rename_i h1 <;> try (simp at h1; done)
 all_goals first
  | (simp at h; done)
  | skip
 ·cases h
  refine ⟨[], ?_, by simp, by simp, by simp⟩
  rw [A3i]; exact ⟨by simp, .inl ⟨rfl, none, 0, rfl, by omega⟩⟩
 ·rename_i a len cap
  simp only [Option.some.injEq, TypeDesc.slice.injEq] at h1
  subst h1
  split at h
  ·rename_i hcond
   obtain ⟨-, hlc, hcm⟩ := hcond
   rw [Option.bind_eq_some_iff] at h
   obtain ⟨elems, he, h⟩ := h
   rw [if_pos rfl, Option.map_eq_some_iff] at h
   obtain ⟨rest, hr, h⟩ := h
   simp only [Prod.mk.injEq] at h
   obtain ⟨rfl, rfl⟩ := h
   obtain ⟨e1, e2⟩ := Bf7 he
   obtain ⟨r1, _⟩ := Bf7 hr
   unfold maxLen at hcm
   simp only [DataW.weights, ht, List.all_cons, Bool.and_eq_true, decide_eq_true_eq, reachBytes, List.length_map, e1, r1, hB] at hwt
   have hcapB : cap * B ≤ 140737488351232 := by have := of_decide_eq_true hwt.1; rwa [Nat.add_sub_cancel' hlc] at this
   have hlen : len * B ≤ 140737488351232 := Nat.le_trans (Nat.mul_le_mul_right _ hlc) hcapB
   have hwe : (DataW.weightsAll P e (elems.map (·.1))).all (· ≤ reachBytes) = true := A82 (m := DataW.weightsAll P e (elems.map (·.1)) ++ DataW.weightsAll P e (rest.map (·.1))) hwt.2 (fun n hn => List.mem_append_left _ hn)
   obtain ⟨b, off, spot⟩ := a
   have key : ∀ i, i < len → ∃ us a, A3i (came w) w (f a) us ∧ ok a ∧ us.length = k ∧ (∀ j u, us[j]? = some u → w.cell? ((⟨b, off, spot⟩ : Addr).add (i * k + j)) = some u) := by
    intro i hi
    obtain ⟨x, hx, hxe⟩ := e2 i hi
    rw [Option.bind_eq_some_iff] at hxe
    obtain ⟨us, hus, htr⟩ := hxe
    rw [hk] at hus
    obtain ⟨c1, c2⟩ := BnD hus
    obtain ⟨a, ha, hok⟩ := hc enc w n us x.1 x.2 htr (A82 hwe fun m hm => BdI hm (List.mem_map.2 ⟨x, List.mem_of_getElem? hx, rfl⟩))
    refine ⟨us, a, ha, hok, c1, fun j u hj => ?_⟩
    have hjk : j < k := by rw [← c1]; exact (List.getElem?_eq_some_iff.1 hj).1
    obtain ⟨u', hu', hcu⟩ := c2 j hjk
    rw [hj] at hu'; cases hu'
    rw [Bwd] at hcu
    exact hcu
   by_cases hl0 : len = 0
   ·subst hl0
    refine ⟨[], ?_, by simp, by simp, by simp⟩
    rw [A3i]; exact ⟨by simp, .inl ⟨rfl, _, cap, rfl, hcm⟩⟩
   ·have hsp : spot = none := by
     obtain ⟨us, a, _, _, c1, c2⟩ := key 0 (by omega)
     have hu : us[0]? = some us[0] := List.getElem?_eq_getElem (by omega)
     have := c2 0 _ hu
     simpa [Addr.add] using World.cell?_spot this
    subst hsp
    obtain ⟨l, us, l1, l2, l3, l4, l5⟩ := Bk5 (f := f) (ok := ok) hw (w := w) (b := b) (off := off) len 0 (fun i hi => by
     obtain ⟨us, a, h1, h2, h3, h4⟩ := key i hi
     refine ⟨us, a, h1, h2, h3, fun j u hj => ?_⟩
     have := h4 j u hj
     rw [BqY] at this
     rw [Nat.zero_add, Nat.add_assoc]; exact this)
    refine ⟨l, ?_, l2, by rw [l1]; exact hlen, by omega⟩
    rw [A3i]
    refine ⟨fun x hx => ?_, .inr ⟨b, off, cap, us, by rw [List.length_map, l1], by rw [List.length_map, l1]; exact hlc, hcm, ?_, l3, by simpa using l5⟩⟩
    ·obtain ⟨a, ha, rfl⟩ := List.mem_map.1 hx; exact hw a (l2 a ha)
    ·have hus : 0 < us.length := by rw [l4]; exact Nat.mul_pos (by omega) (by omega)
     exact Bvz (l5 0 us[0] (List.getElem?_eq_getElem hus))
  ·cases h
end
section
variable {P : Program} {t e : TypeId} {α : Type} {f : α → TV} {ok : α → Prop} {k : Nat}
theorem BcZ {β : Type} {g : β → TV} {ok' : β → Prop} (h : BbU P t f ok) (hm : ∀ a, ok a → ∃ b, f a = g b ∧ ok' b) : BbU P t g ok' := by
 intro H enc w fuel cs d ps h1 h2
 obtain ⟨a, h3, h4⟩ := h enc w fuel cs d ps h1 h2
 obtain ⟨b, h5, h6⟩ := hm a h4
 exact ⟨b, by rw [← h5]; exact h3, h6⟩
theorem Bqf (ht : P.underlying t = some (.int .u8)) : BbU P t by8 (fun _ => True) :=
 BcZ (Biw ht) fun n h => by
  have := bounds_u8 h
  refine ⟨UInt8.ofNat n.toNat, ?_, trivial⟩
  rw [by8, UInt8.toNat_ofNat', Nat.mod_eq_of_lt (by omega)]
  congr 2; omega
theorem BnP (ht : P.underlying t = some (.int .i64)) : BbU P t i64 (fun n => -9223372036854775808 ≤ n ∧ n ≤ 9223372036854775807) :=
 BcZ (Biw ht) fun n h => ⟨n, rfl, by have := bounds_i64 h; omega⟩
/-- A slice of bytes. -/
theorem Bgu (ht : P.underlying t = some (.slice e)) (he : P.underlying e = some (.int .u8)) (hk : P.cellsOf e = 1) (hB : P.bytesOf e = 1) : BbU P t slB (fun l => l.length ≤ 140737488351232) :=
 BcZ (Bkq ht hk hB (Bqf he) (fun _ _ => rfl) (by omega)) fun l h => ⟨l, rfl, by have := h.2; omega⟩
end

def Bjc (P : Program) (off : Nat) (fs : List Field) {α : Type} (f : α → List TV) (ok : α → Prop) : Prop :=
 ∀ {H : Type} (enc : TypeId × Value → H) (w : World) (fuel : Nat) (cs : List Value) (xs : List (DataW H × List MemPlace)),
  (fs.mapM fun fd => DataW.trod enc P w 0 (fun _ => true) true fuel fd.type ((cs.drop fd.offset).take (P.cellsOf fd.type))) = some xs → (DataW.weightsEach P (fs.map (·.type)) (xs.map (·.1))).all (· ≤ reachBytes) = true →
  cs.length = off + (fs.map fun fd => P.cellsOf fd.type).sum → ∃ a, A3j (came w) w (f a) (cs.drop off) ∧ ok a
theorem Bl6 {P : Program} {off : Nat} : Bjc P off [] (fun _ : Unit => []) (fun _ => True) := by
 intro H enc w fuel cs xs _ _ hl
 refine ⟨(), ?_, trivial⟩
 rw [A3j]; exact List.drop_eq_nil_of_le (by simp at hl; omega)
theorem Bgy {P : Program} {off n : Nat} {fd : Field} {fs : List Field} {α β : Type} {f : α → TV} {ok : α → Prop} {g : β → List TV} {ok' : β → Prop} (h0 : fd.offset = off) (hn : P.cellsOf fd.type = n) (hc : BbU P fd.type f ok) (hr : Bjc P (off + n) fs g ok') :
  Bjc P off (fd :: fs) (fun x : α × β => f x.1 :: g x.2) (fun x => ok x.1 ∧ ok' x.2) := by
 intro H enc w fuel cs xs hx hw hl
 rw [List.mapM_cons] at hx
 cases h1 : DataW.trod enc P w 0 (fun _ => true) true fuel fd.type ((cs.drop fd.offset).take (P.cellsOf fd.type)) with
 | none => rw [h1] at hx; cases hx
 | some y =>
  rw [h1] at hx
  cases h2 : (fs.mapM fun fd => DataW.trod enc P w 0 (fun _ => true) true fuel fd.type ((cs.drop fd.offset).take (P.cellsOf fd.type))) with
  | none => rw [h2] at hx; cases hx
  | some ys =>
   rw [h2] at hx
   have e : xs = y :: ys := by simpa using hx.symm
   subst e
   simp only [List.map_cons, DataW.weightsEach] at hw
   obtain ⟨a, ha, hoka⟩ := hc enc w fuel _ y.1 y.2 h1 (A82 hw fun n hn => List.mem_append_left _ hn)
   obtain ⟨b, hb, hokb⟩ := hr enc w fuel cs ys h2 (A82 hw fun n hn => List.mem_append_right _ hn) (by simp [hn] at hl ⊢; omega)
   refine ⟨(a, b), ?_, hoka, hokb⟩
   rw [A3j]
   refine ⟨(cs.drop off).take n, cs.drop (off + n), ?_, by rw [← h0, ← hn]; exact ha, hb⟩
   rw [← List.drop_drop, List.take_append_drop]
theorem BjC {P : Program} {t : TypeId} {fs : Array Field} {α : Type} {f : α → List TV} {ok : α → Prop} (ht : P.underlying t = some (.struct fs)) (hn : P.cellsOf t = (fs.toList.map fun fd => P.cellsOf fd.type).sum) (hc : Bjc P 0 fs.toList f ok) :
  BbU P t (fun a => .agg (f a)) ok := by
 intro H enc w fuel cs d ps h hwt
 obtain ⟨m, rfl⟩ := Bjl h
 unfold DataW.trod at h; rw [ht] at h
 split at h <;> rename_i h1 <;> try (simp at h1; done)
 all_goals first
  | (simp at h; done)
  | exact ((‹∀ (fs_1 : Array Field), some (TypeDesc.struct fs) = some (TypeDesc.struct fs_1) → False› : ∀ (fs_1 : Array Field), some (TypeDesc.struct fs) = some (TypeDesc.struct fs_1) → False) fs rfl).elim
  | skip
 cases h1
 split at h
 ·rename_i hlen
  rw [Option.map_eq_some_iff] at h
  obtain ⟨xs, hx, h⟩ := h
  simp only [Prod.mk.injEq] at h
  obtain ⟨rfl, rfl⟩ := h
  simp only [DataW.weights, ht] at hwt
  obtain ⟨a, ha, hok⟩ := hc enc w m _ xs hx hwt (by rw [hlen, hn, Nat.zero_add])
  exact ⟨a, by rw [A3i]; rw [List.drop_zero] at ha; exact ha, hok⟩
 ·cases h

def BfC (P : Program) (ts : List TypeId) {α : Type} (f : α → List TV) (ok : α → Prop) : Prop :=
 ∀ {H : Type} (enc : TypeId × Value → H) (w : World) (vs : List Value) (ds : List (DataW H)) (ps : List MemPlace),
  DataW.TrodAll enc P w 0 (fun _ => true) true ts vs ds ps → (∀ (j : Nat) t v, ts[j]? = some t → vs[j]? = some v → ∃ base, Value.okWide P w .any base t v) → (DataW.weightsEach P ts ds).all (· ≤ reachBytes) = true → ∃ a, A3V (came w) w (f a) vs ∧ ok a
theorem Bj1 {P : Program} : BfC P [] (fun _ : Unit => []) (fun _ => True) := by
 intro H enc w vs ds ps h _ _
 obtain ⟨rfl, rfl, rfl⟩ := trodAll_nil h
 exact ⟨(), by rw [A3V], trivial⟩
/-- A value of a type is what its cells make of it. -/
def Bmk (P : Program) (t : TypeId) (b : Bool) : Prop := ∀ w base v, Value.okWide P w .any base t v → if b then ∃ cs, v = .agg cs else v.cells = #[v]
theorem Bkv {P : Program} {t e : TypeId} (ht : P.underlying t = some (.slice e)) : Bmk P t false := fun w _ v h => by obtain ⟨_, _, _, rfl⟩ := okWide_slice ht h; rfl
theorem BjK {P : Program} {t : TypeId} {fs : Array Field} (ht : P.underlying t = some (.struct fs)) : Bmk P t true := fun w _ v h => by obtain ⟨cs, rfl, _⟩ := okWide_struct ht h; exact ⟨cs, rfl⟩
theorem Bqj {c : Ctx} {P : Program} {w : World} {t : TypeId} {v : Value} {x : TV} {b : Bool} (hf : Bmk P t b) {base : Nat} (hv : Value.okWide P w .any base t v) (hx : Bf8 x = b) : v = mkV x v.cells.toList := by
 have h := hf w base v hv
 cases b with
 | true =>
  simp only [if_true] at h
  obtain ⟨cs, rfl⟩ := h
  rw [Bm1 hx]; simp [Value.cells]
 | false =>
  simp only [Bool.false_eq_true, if_false] at h
  rw [h]
  exact (Bg8 hx).symm
theorem Bdv {P : Program} {t : TypeId} {ts : List TypeId} {α β : Type} {f : α → TV} {ok : α → Prop} {g : β → List TV} {ok' : β → Prop} {b : Bool} (hc : BbU P t f ok) (hf : Bmk P t b) (hm : ∀ a, Bf8 (f a) = b) (hr : BfC P ts g ok') :
  BfC P (t :: ts) (fun x : α × β => f x.1 :: g x.2) (fun x => ok x.1 ∧ ok' x.2) := by
 intro H enc w vs ds ps h hv hw
 obtain ⟨v, vs', d, ds', p, q, rfl, rfl, rfl, h0, r0⟩ := trodAll_cons h
 simp only [DataW.weightsEach] at hw
 obtain ⟨fuel, hfu⟩ := h0
 obtain ⟨a, ha, hoka⟩ := hc enc w fuel _ d p hfu (A82 hw fun n hn => List.mem_append_left _ hn)
 obtain ⟨b, hb, hokb⟩ := hr enc w vs' ds' q r0 (fun j t v h1 h2 => hv (j + 1) t v (by simpa using h1) (by simpa using h2)) (A82 hw fun n hn => List.mem_append_right _ hn)
 refine ⟨(a, b), A3V.cons.2 ⟨v, vs', rfl, .inr (.inr ⟨v.cells.toList, ha, Bqj (c := came w) hf (hv 0 t v rfl rfl).choose_spec (hm a)⟩), hb⟩, hoka, hokb⟩

/-- All that came in reads aS it did. -/
theorem Bfk {H : Type} {enc : TypeId × Value → H} {P : Program} (hl : laidOutB P = true) {W W' : World} (hb : Below W.heap.size W W') : ∀ {ts : List TypeId} {vs : List Value} {ds : List (DataW H)} {ps : List MemPlace}, (ts.all fun t => P.readableRec t && decide (t < P.types.size)) = true →
  DataW.TrodAll enc P W 0 (fun _ => true) true ts vs ds ps → DataW.TrodAll enc P W' 0 (fun b => decide (b < W.heap.size)) true ts vs ds ps
 | [], vs, ds, ps, _, h => by
  obtain ⟨rfl, rfl, rfl⟩ := trodAll_nil h
  exact trodAll_mk0
 | t :: ts, vs, ds, ps, hr, h => by
  obtain ⟨v, vs', d, ds', p, q, rfl, rfl, rfl, h0, r0⟩ := trodAll_cons h
  simp only [List.all_cons, Bool.and_eq_true, decide_eq_true_eq] at hr
  refine trodAll_cons_mk (Below.trod hl hr.1.1 hr.1.2 h0 hb ?_) (Bfk hl hb (by simpa using hr.2) r0)
  obtain ⟨m, hm⟩ := h0
  exact DataW.trod_lt m _ _ _ hm

theorem Baf.below {F F' : Nat → Prop} {w w' : World} (h : Baf F w F' w') : Below w.heap.size w w' := ⟨h.os, h.tape, h.output, h.size, fun k hk => h.same k hk⟩
/-- THE WALK OF A STATEMENT, out of what the machine of values says of it. -/
theorem Bw5 {P : Program} {f : FuncId} {ts : List TypeId} {α : Type} {g : α → List TV} {ok : α → Prop} (hc : BfC P ts g ok) (hlaw : ∀ a, ok a → A4p P f (g a) (fun x => x = tb true)) {H : Type} {enc : TypeId × Value → H} {w : World} {args : Array Value} {ds : List (DataW H)} {ps : List MemPlace}
  (h : DataW.TrodAll enc P w 0 (fun _ => true) true ts args.toList ds ps) (hv : ∀ (j : Nat) t v, ts[j]? = some t → args.toList[j]? = some v → ∃ base, Value.okWide P w .any base t v) (hw : (DataW.weightsEach P ts ds).all (· ≤ reachBytes) = true) (hg : A8z (fun b => b < w.heap.size) w) :
  Calls P f args w fun e w' => e = .returned (.bool true) ∧ Below w.heap.size w w' := by
 obtain ⟨a, ha, hok⟩ := hc enc w args.toList ds ps h hv hw
 have := hlaw a hok (fun _ _ => none) (fun b => b < w.heap.size) w args.toList ⟨fun b h => h, hg⟩ ha
 rw [Array.toArray_toList] at this
 refine this.mono ?_
 rintro e w' ⟨v, x, F', rfl, rfl, hx, hst⟩
 rw [Rep.val] at hx
 exact ⟨by rw [hx], hst.below⟩
end Go.Proofs.YtmlompedpahkjaaGreatDoor


namespace Go.Proofs.YtmlompedpahkjaaGreatDoor
open Go.RowKit
variable [A4e]
set_option linter.unusedSectionVars false
set_option linter.unusedVariables false

theorem BnR {g : Nat} {x : GV} (h : A8v g = some x) : (g, x) ∈ A4e.l := by
 unfold A8v at h
 obtain ⟨p, hp, rfl⟩ := Option.map_eq_some_iff.1 h
 have h1 := List.mem_of_find?_eq_some hp
 have h2 := List.find?_some hp
 have h3 : p.1 = g := by simpa using h2
 obtain ⟨a, b⟩ := p
 simp only at h3; subst h3; exact h1
section
omit [A4e]
theorem Bjh {P : Program} {w : World} {name : String} {g : Nat} {cs : Array Value} (hg : P.globalNamed name = some g) (h : w.var? P name = some cs) : ∃ t fr, w.heap[g]? = some (.cells cs t fr) := by
 unfold World.var? at h
 rw [hg, Option.bind_some] at h
 split at h
 ·rename_i c t fr hh; cases h; exact ⟨t, fr, hh⟩
 ·cases h
/-- A number's or a text's type. -/
def Brd (P : Program) (t : TypeId) : Bool := match P.underlying t with
 | some (.int _) => true
 | some .string => true
 | _ => false
def Bz2 : DataW Unit → Option Value
 | .lit (.int k n) => some (.int k n)
 | .lit (.string l) => some (.string ⟨l.toArray⟩)
 | _ => none
variable {P : Program} {w : World} {fuel : Nat} {cs : List Value}
theorem BlD {t : TypeId} {x : DataW Unit × List MemPlace} (ht : Brd P t = true) (h : DataW.trod (fun _ => ()) P w 0 (fun _ => true) false fuel t cs = some x) : ∃ v, Bz2 x.1 = some v ∧ cs = [v] := by
 unfold Brd at ht
 split at ht
 ·rename_i k hk
  obtain ⟨n, rfl, rfl, _⟩ := DataW.trod_int hk h
  exact ⟨_, rfl, rfl⟩
 ·rename_i hk
  obtain ⟨s, rfl, rfl, _⟩ := DataW.trod_string hk h
  exact ⟨_, rfl, by simp⟩
 ·cases ht
theorem Blx {t e : TypeId} {n : Nat} {ds : List (DataW Unit)} {p : List MemPlace} {vs : List Value} (ht : P.underlying t = some (.array n e)) (he : Brd P e = true) (hce : P.cellsOf e = 1) (hct : P.cellsOf t = n) (hv : ds.map Bz2 = vs.map some)
  (h : DataW.trod (fun _ => ()) P w 0 (fun _ => true) false fuel t cs = some (.agg ds, p)) : cs = vs := by
 cases fuel with
 | zero => simp [DataW.trod] at h
 | succ fuel =>
  simp only [DataW.trod, ht, hce, hct, Nat.mul_one] at h
  split at h
  ·rename_i hl
   obtain ⟨xs, hm, hx⟩ := Option.map_eq_some_iff.1 h
   have hxs : xs.map (·.1) = ds := by
    have := congrArg Prod.fst hx
    simpa using this
   have hxl : xs.length = n := by simpa using Lib.mapM_length hm
   have hvl : vs.length = n := by
    have h1 := congrArg List.length hxs
    have h2 := congrArg List.length hv
    simp at h1 h2
    omega
   apply List.ext_getElem?
   intro i
   by_cases hi : i < n
   ·obtain ⟨b, hb, hf⟩ := Lib.mapM_at hm i i (by simp [hi])
    obtain ⟨v, hv1, hv2⟩ := BlD he hf
    have h1 : cs[i]? = some v := by
     have := congrArg (·[0]?) hv2
     simpa [List.getElem?_take, List.getElem?_drop] using this
    have h2 : ds[i]? = some b.1 := by rw [← hxs]; simp [hb]
    have h3 : (ds.map Bz2)[i]? = some (some v) := by simp [h2, hv1]
    rw [hv] at h3
    simp only [List.getElem?_map, Option.map_eq_some_iff, Option.some.injEq] at h3
    obtain ⟨u, hu, rfl⟩ := h3
    rw [h1, hu]
   ·rw [List.getElem?_eq_none (by omega), List.getElem?_eq_none (by omega)]
  ·cases h
theorem Bmw {name : String} {d : DataW Unit} : ∀ {laid : List (String × DataW Unit)} {ps : List MemPlace}, DataW.LaidVars P w laid ps → (name, d) ∈ laid →
  ∃ g t cs fuel p, P.globalNamed name = some g ∧ (P.globals[g]?).map (·.type) = some t ∧ w.var? P name = some cs ∧ DataW.trod (fun _ => ()) P w 0 (fun _ => true) false fuel t cs.toList = some (d, p)
 | [], ps, _, hm => by simp at hm
 | (n, d') :: r, ps, h, hm => by
  obtain ⟨g, t, cs, fuel, p, q, h1, h2, h3, h4, h5, _⟩ := h
  rcases List.mem_cons.1 hm with e | hm
  ·cases e; exact ⟨g, t, cs, fuel, p, h1, h2, h3, h4⟩
  ·exact Bmw h5 hm
/-- A laid array lies there. -/
theorem Bha {laid : List (String × DataW Unit)} (h : laidMet P laid w) {name : String} {ds : List (DataW Unit)} (hm : (name, DataW.agg ds) ∈ laid) {g : Nat} {t e : TypeId} {n : Nat} {vs : List Value} (hg : P.globalNamed name = some g) (hty : (P.globals[g]?).map (·.type) = some t)
  (ht : P.underlying t = some (.array n e)) (he : Brd P e = true) (hce : P.cellsOf e = 1) (hct : P.cellsOf t = n) (hv : ds.map Bz2 = vs.map some) : ∃ tt fr, w.heap[g]? = some (.cells vs.toArray tt fr) := by
 obtain ⟨ps, h, _⟩ := h
 obtain ⟨g', t', cs, fuel, p, h1, h2, h3, h4⟩ := Bmw h hm
 obtain rfl := Option.some.inj (hg.symm.trans h1)
 obtain rfl := Option.some.inj (hty.symm.trans h2)
 have := Blx ht he hce hct hv h4
 have e : cs = vs.toArray := by rw [← this, Array.toArray_toList]
 rw [e] at h3
 exact Bjh hg h3
end
end Go.Proofs.YtmlompedpahkjaaGreatDoor


namespace Go.Proofs.YtmlompedpahkjaaGreatDoor
open Go.RowKit
variable [A4e]
set_option linter.unusedSectionVars false
set_option linter.unusedVariables false
set_option linter.unusedSimpArgs false

set_option maxRecDepth 100000 in
theorem BnX : BbU Tryz.prog 25 (fun o : Int × List UInt8 => .agg [i64 o.1, slB o.2]) (fun o => (-9223372036854775808 ≤ o.1 ∧ o.1 ≤ 9223372036854775807) ∧ o.2.length ≤ 140737488351232) := by
 refine BcZ (BjC Tryz.underlying25 (by kernel_rfl) (Bgy (off := 0) (n := 1) rfl (by kernel_rfl) (BnP Tryz.underlying22) (Bgy (off := 1) (n := 1) rfl (by kernel_rfl)
  (Bgu Tryz.underlying23 Tryz.underlying5 (by kernel_rfl) (by kernel_rfl)) Bl6))) fun x h => ?_
 obtain ⟨k, d, u⟩ := x
 exact ⟨(k, d), rfl, h.1, h.2.1⟩
end Go.Proofs.YtmlompedpahkjaaGreatDoor


namespace Go.Proofs.YtmlompedpahkjaaGreatDoor
open Go.RowKit
variable [A4e]
set_option linter.unusedSectionVars false
set_option linter.unusedVariables false
set_option linter.unusedSimpArgs false
set_option autoImplicit false

/-- The last k decimal digits. -/
def dgs : Nat → Nat → List UInt8
 | 0, _ => []
 | k + 1, v => dgs k (v / 10) ++ [UInt8.ofNat (48 + v % 10)]
theorem Bjx : ∀ (k v : Nat), (dgs k v).length = k
 | 0, _ => rfl
 | k + 1, v => by rw [dgs, List.length_append, Bjx k]; rfl
theorem Bcl : ∀ (k m v : Nat), dgs (m + k) v = dgs m (v / 10 ^ k) ++ dgs k v
 | 0, m, v => by simp [dgs]
 | k + 1, m, v => by rw [← Nat.add_assoc, dgs, dgs, Bcl k m, Nat.div_div_eq_div_mul, Nat.pow_succ, Nat.mul_comm 10, List.append_assoc]
theorem BcL (v : Nat) : dgs 2 v = [UInt8.ofNat (48 + v % 100 / 10), UInt8.ofNat (48 + v % 100 % 10)] := by
 simp only [dgs, List.nil_append, List.cons_append]
 rw [show v / 10 % 10 = v % 100 / 10 by omega, show v % 10 = v % 100 % 10 by omega]
theorem BlI (v : Nat) : dgs 1 v = [UInt8.ofNat (48 + v % 10)] := by simp [dgs]
theorem Bl2 : ∀ (u : Nat), dgs (Lib.nDigits u) u = Lib.decDigits u := by
 intro u
 induction u using Nat.strongRecOn with
 | _ u ih =>
  by_cases h : u < 10
  ·rw [Lib.nDigits_small h, Lib.decDigits_one h, BlI, Nat.mod_eq_of_lt h]
  ·rw [Lib.nDigits_big h, dgs, ih (u / 10) (by omega), Lib.decDigits.eq_1 u, dif_neg h]
theorem BiM : ∀ (u : Nat), u < 10 ^ Lib.nDigits u := by
 intro u
 induction u using Nat.strongRecOn with
 | _ u ih =>
  by_cases h : u < 10
  ·rw [Lib.nDigits_small h]; omega
  ·have := ih (u / 10) (by omega)
   rw [Lib.nDigits_big h, Nat.pow_succ]; omega
end Go.Proofs.YtmlompedpahkjaaGreatDoor


namespace Go.Proofs.YtmlompedpahkjaaGreatDoor
open Go.RowKit
variable [A4e]
set_option linter.unusedSectionVars false
set_option linter.unusedVariables false
section
variable {t : TypeId} {a b : Nat} {k2 : IntKind}
theorem BkE {n : Nat} (h : n < 4294967296) : IntKind.u32.wrap (n : Int) = n := by rw [IntKind.wrap_u32']; omega
end
end Go.Proofs.YtmlompedpahkjaaGreatDoor


namespace Go.Proofs.YtmlompedpahkjaaGreatDoor
open Go.RowKit
variable [A4e]
set_option linter.unusedSectionVars false
set_option linter.unusedVariables false
section
variable {t : TypeId} {a b : Nat} {k2 : IntKind}
theorem Bd0 {n : Nat} (h : n < 18446744073709551616) : IntKind.u64.wrap (n : Int) = n := by rw [IntKind.wrap_u64]; omega
theorem BrR (h : b ≠ 0) (h1 : a < 18446744073709551616) : A6b t .quo (.int .u64 (a : Int)) (.int .u64 (b : Int)) = some (.int .u64 ((a / b : Nat) : Int)) := by
 have e : binOp .quo t (.int .u64 (a : Int)) (.int .u64 (b : Int)) = pure (.int .u64 ((a / b : Nat) : Int)) := by
  unfold binOp
  simp only [ne_eq, not_true_eq_false, if_false, Op.intDiv, show ¬ (b : Int) = 0 from by omega, Int.tdiv_eq_ediv_of_nonneg (show (0 : Int) ≤ (a : Int) by omega)]
  rw [show (a : Int) / (b : Int) = ((a / b : Nat) : Int) from rfl, Bd0 (Nat.lt_of_le_of_lt (Nat.div_le_self _ _) h1)]
 unfold A6b; rw [e]; rfl
theorem Bi6 (h : b ≠ 0) (h1 : a < 4294967296) : A6b t .quo (.int .u32 (a : Int)) (.int .u32 (b : Int)) = some (.int .u32 ((a / b : Nat) : Int)) := by
 have e : binOp .quo t (.int .u32 (a : Int)) (.int .u32 (b : Int)) = pure (.int .u32 ((a / b : Nat) : Int)) := by
  unfold binOp
  simp only [ne_eq, not_true_eq_false, if_false, Op.intDiv, show ¬ (b : Int) = 0 from by omega, Int.tdiv_eq_ediv_of_nonneg (show (0 : Int) ≤ (a : Int) by omega)]
  rw [show (a : Int) / (b : Int) = ((a / b : Nat) : Int) from rfl, BkE (Nat.lt_of_le_of_lt (Nat.div_le_self _ _) h1)]
 unfold A6b; rw [e]; rfl
theorem BjF (h1 : a * b < 4294967296) : A6b t .mul (.int .u32 (a : Int)) (.int .u32 (b : Int)) = some (.int .u32 ((a * b : Nat) : Int)) := by
 rw [show A6b t .mul (.int .u32 (a : Int)) (.int .u32 (b : Int)) = some (.int .u32 (IntKind.u32.wrap ((a : Int) * (b : Int)))) from rfl, show (a : Int) * (b : Int) = ((a * b : Nat) : Int) from rfl, BkE h1]
theorem Bbn (h1 : a + b < 4294967296) : A6b t .add (.int .u32 (a : Int)) (.int .u32 (b : Int)) = some (.int .u32 ((a + b : Nat) : Int)) := by
 rw [show A6b t .add (.int .u32 (a : Int)) (.int .u32 (b : Int)) = some (.int .u32 (IntKind.u32.wrap ((a : Int) + (b : Int)))) from rfl, show (a : Int) + (b : Int) = ((a + b : Nat) : Int) from by omega, BkE h1]
theorem BsC (h1 : a * b < 18446744073709551616) : A6b t .mul (.int .u64 (a : Int)) (.int .u64 (b : Int)) = some (.int .u64 ((a * b : Nat) : Int)) := by
 rw [show A6b t .mul (.int .u64 (a : Int)) (.int .u64 (b : Int)) = some (.int .u64 (IntKind.u64.wrap ((a : Int) * (b : Int)))) from rfl, show (a : Int) * (b : Int) = ((a * b : Nat) : Int) from rfl, Bd0 h1]
theorem Bsp (h1 : b ≤ a) (h2 : a < 18446744073709551616) : A6b t .sub (.int .u64 (a : Int)) (.int .u64 (b : Int)) = some (.int .u64 ((a - b : Nat) : Int)) := by
 rw [show A6b t .sub (.int .u64 (a : Int)) (.int .u64 (b : Int)) = some (.int .u64 (IntKind.u64.wrap ((a : Int) - (b : Int)))) from rfl, show (a : Int) - (b : Int) = ((a - b : Nat) : Int) from by omega, Bd0 (by omega)]
theorem Brj (h2 : b ≤ 63) (h4 : a * 2 ^ b < 18446744073709551616) : A6b t .shl (.int .u64 (a : Int)) (.int k2 (b : Int)) = some (.int .u64 ((a * 2 ^ b : Nat) : Int)) := by
 have e : binOp .shl t (.int .u64 (a : Int)) (.int k2 (b : Int)) = pure (.int .u64 ((a * 2 ^ b : Nat) : Int)) := by
  show Op.shift .shl .u64 a k2 b = _
  unfold Op.shift
  rw [if_neg (by omega)]
  have hm : min ((b : Int)).toNat IntKind.u64.bits = b := by
   have : IntKind.u64.bits = 64 := rfl
   omega
  simp only [hm]
  have e2 : (a : Int) * 2 ^ b = ((a * 2 ^ b : Nat) : Int) := by rw [Int.natCast_mul, Int.natCast_pow]; rfl
  rw [e2, Bd0 h4]
 unfold A6b; rw [e]; rfl
end
end Go.Proofs.YtmlompedpahkjaaGreatDoor


namespace Go.Proofs.YtmlompedpahkjaaGreatDoor
open Go.RowKit
variable [A4e]
set_option linter.unusedSectionVars false
set_option linter.unusedSimpArgs false
set_option linter.unusedVariables false
set_option autoImplicit false

section
variable {t : TypeId} {a b : Nat} {k2 : IntKind}
theorem BBh {n : Nat} (h : n < 256) : IntKind.u8.wrap (n : Int) = n := by rw [IntKind.wrap_u8]; omega
theorem bv8 {n : Nat} : (BitVec.ofInt 8 (n : Int)).toNat = n % 256 := by
 rw [BitVec.toNat_ofInt]; omega
theorem Bub : A6b t .add (.int .u8 (a : Int)) (.int .u8 (b : Int)) = some (.int .u8 (((a + b) % 256 : Nat) : Int)) := by
 rw [show A6b t .add (.int .u8 (a : Int)) (.int .u8 (b : Int)) = some (.int .u8 (IntKind.u8.wrap ((a : Int) + b))) from rfl, IntKind.wrap_u8]
 congr 2
theorem BmV (h : b ≤ a) (h2 : a < 256) : A6b t .sub (.int .u8 (a : Int)) (.int .u8 (b : Int)) = some (.int .u8 ((a - b : Nat) : Int)) := by
 rw [show A6b t .sub (.int .u8 (a : Int)) (.int .u8 (b : Int)) = some (.int .u8 (IntKind.u8.wrap ((a : Int) - b))) from rfl, IntKind.wrap_u8]
 congr 2; omega
theorem BA3 (h1 : a < 256) (h2 : b < 256) : A6b t .or (.int .u8 (a : Int)) (.int .u8 (b : Int)) = some (.int .u8 ((a ||| b : Nat) : Int)) := by
 rw [show A6b t .or (.int .u8 (a : Int)) (.int .u8 (b : Int)) = some (.int .u8 (IntKind.u8.wrap ((BitVec.ofInt 8 a ||| BitVec.ofInt 8 b).toNat : Int))) from rfl, BitVec.toNat_or, bv8, bv8, Nat.mod_eq_of_lt (by omega), Nat.mod_eq_of_lt (by omega)]
 have := Nat.or_lt_two_pow (n := 8) (x := a) (y := b) (by omega) (by omega)
 rw [BBh (by omega)]
end
theorem Bjd {l : List UInt8} : bl (str l) = l := by simp [bl, str]
theorem BwM {l m : List UInt8} : str l ++ str m = str (l ++ m) := by
 apply ByteArray.ext
 simp [str]
theorem BAd {t : TypeId} {l m : List UInt8} (h : l.length + m.length ≤ 9223372036854775807) : A6b t .add (.string (str l)) (.string (str m)) = some (.string (str (l ++ m))) := by
 have e1 : (str l).size = l.length := by show l.toArray.size = _; simp
 have e2 : (str m).size = m.length := by show m.toArray.size = _; simp
 rw [← BwM, A6b, binOp_string_add, Op.stringOp]
 simp only [e1, e2]
 rw [if_neg (by show ¬ ((l.length + m.length : Nat) : Int) > 9223372036854775807; omega)]
 rfl
end Go.Proofs.YtmlompedpahkjaaGreatDoor


namespace Go.Proofs.YtmlompedpahkjaaGreatDoor
variable [A4e]
set_option linter.unusedSectionVars false
set_option linter.unusedVariables false
set_option linter.defProp false
set_option maxRecDepth 100000

def A3A : ByteArray := str [48, 48, 48, 49, 48, 50, 48, 51, 48, 52, 48, 53, 48, 54, 48, 55, 48, 56, 48, 57, 49, 48, 49, 49, 49, 50, 49, 51, 49, 52, 49, 53, 49, 54, 49, 55, 49, 56, 49, 57, 50, 48, 50, 49, 50, 50, 50, 51, 50, 52, 50, 53, 50, 54, 50, 55, 50, 56, 50, 57, 51, 48, 51, 49, 51, 50, 51, 51, 51, 52, 51, 53, 51, 54, 51, 55, 51, 56, 51, 57, 52, 48, 52, 49, 52, 50, 52, 51, 52, 52, 52, 53, 52, 54, 52, 55, 52, 56, 52, 57, 53, 48, 53, 49, 53, 50, 53, 51, 53, 52, 53, 53, 53, 54, 53, 55, 53, 56, 53, 57, 54, 48, 54, 49, 54, 50, 54, 51, 54, 52, 54, 53, 54, 54, 54, 55, 54, 56, 54, 57, 55, 48, 55, 49, 55, 50, 55, 51, 55, 52, 55, 53, 55, 54, 55, 55, 55, 56, 55, 57, 56, 48, 56, 49, 56, 50, 56, 51, 56, 52, 56, 53, 56, 54, 56, 55, 56, 56, 56, 57, 57, 48, 57, 49, 57, 50, 57, 51, 57, 52, 57, 53, 57, 54, 57, 55, 57, 56, 57, 57]

def A5E : A3d := .seq (.ops [so_ 7 (.alloc (.arr 24 1 [.val (.int .u8 ((0 : Nat) : Int)), .val (.int .u8 ((0 : Nat) : Int)), .val (.int .u8 ((0 : Nat) : Int)), .val (.int .u8 ((0 : Nat) : Int)), .val (.int .u8 ((0 : Nat) : Int)), .val (.int .u8 ((0 : Nat) : Int)), .val (.int .u8 ((0 : Nat) : Int)), .val (.int .u8 ((0 : Nat) : Int)), .val (.int .u8 ((0 : Nat) : Int)), .val (.int .u8 ((0 : Nat) : Int)), .val (.int .u8 ((0 : Nat) : Int)), .val (.int .u8 ((0 : Nat) : Int)), .val (.int .u8 ((0 : Nat) : Int)), .val (.int .u8 ((0 : Nat) : Int)), .val (.int .u8 ((0 : Nat) : Int)), .val (.int .u8 ((0 : Nat) : Int)), .val (.int .u8 ((0 : Nat) : Int)), .val (.int .u8 ((0 : Nat) : Int)), .val (.int .u8 ((0 : Nat) : Int)), .val (.int .u8 ((0 : Nat) : Int)), .val (.int .u8 ((0 : Nat) : Int)), .val (.int .u8 ((0 : Nat) : Int)), .val (.int .u8 ((0 : Nat) : Int)), .val (.int .u8 ((0 : Nat) : Int))]))] [0, 1, 7])
 (.seq (.ops [mv_ 18 1,
  so_ 19 (.call 47 [.t 18]),
  mv_ 8 19] [0, 1, 7, 8])
 (.seq (.ops [mv_ 20 8,
  po_ 21 (.slA 24 1 (.t 7) none (some (.t 20))),
  mv_ 22 1,
  so_ 23 (.call 48 [.t 21, .t 22])] [0, 7, 8])
 (.seq (.ops [mv_ 24 0,
  mv_ 25 8,
  po_ 26 (.slA 24 1 (.t 7) none (some (.t 25))),
  so_ 27 (.app 1 1 5 (.t 24) (.t 26)),
  mv_ 6 27] [6])
 (.ret))))
def A5x : A3d := .seq (.seq (.ops [mv_ 11 1,
  po_ 12 (.bin 77 .lss (.t 11) (.c (.int .u64 ((100 : Nat) : Int))))] [0, 1, 12])
 (.cond (.t 12)
 (.seq (.ops [mv_ 13 0,
   mv_ 14 1,
   po_ 15 (.conv .i64 (.t 14)),
   so_ 16 (.call 46 [.t 15]),
   so_ 17 (.appS 5 (.t 13) (.t 16)),
   mv_ 6 17] [6])
  (.ret))
 (.skip)))
 A5E
def A5H : A3d := .cond (.t 10)
 A5x
 (.skip)
def A5p : A3d := .seq (.seq (.ops [mv_ 9 2,
  po_ 10 (.bin 3 .eql (.t 9) (ci_ 10))] [0, 1, 2, 10])
 A5H)
 (.seq (.ops [mv_ 29 0,
  mv_ 30 1,
  mv_ 31 2,
  so_ 32 (.call 49 [.t 29, .t 30, .t 31, .c (.bool false), .c (.bool true)]),
  mv_ 28 32,
  po_ 33 (.ext 0 (.t 28)),
  po_ 34 (.ext 1 (.t 28)),
  mv_ 0 33] [0])
 (.seq (.ops [mv_ 35 0,
  mv_ 6 35] [6])
 (.ret)))
def A5W : A3d := .seq (.ops [po_ 6 (.mov (.c (.slice none 0 0)))] [0, 1, 2])
 A5p
def A5Y : List VR := [.tmp 6]
theorem A8E : Tryz.f36.body.bind (trC Tryz.prog Tryz.f36.ntmps) = some (er A5W) := by kernel_rfl
theorem A8F : trR Tryz.prog Tryz.f36.results.toList = some A5Y := by kernel_rfl
def A7h := A3a A5E.eq_1
def A68 := A3a A5x.eq_1
def A7c := A3a A5H.eq_1
def A7d := A3a A5p.eq_1
def A8k := A3a A5W.eq_1
theorem A8j {K : TV → Prop} {e : Env} {H : List Ob} : res A5Y e H K = res [.tmp 6] e H K := A29 rfl
def A3J := (And.intro (And.intro (And.intro @A7h @A68) (And.intro @A7c @A7d)) (And.intro @A8k @A8j))
def A8y := A7f 36 Tryz.func36 A8E A8F rfl

def A5L : A3d := .seq (.ops [mv_ 12 0,
  ⟨some 13, .s (.bslice 1 1 (.val (.int .u8 ((0 : Nat) : Int))) [⟨0, .c (.int .u8 ((45 : Nat) : Int))⟩]), none⟩,
  so_ 14 (.app 1 1 5 (.t 12) (.t 13)),
  mv_ 0 14] [0, 2, 7])
 (.ops [mv_ 15 7,
  po_ 16 (.un .neg (.t 15)),
  mv_ 7 16] [0, 2, 7])
def A5K : A3d := .seq (.seq (.ops [mv_ 10 1,
  po_ 11 (.bin 2 .lss (.t 10) (ci_ 0))] [0, 2, 7, 11])
 (.cond (.t 11)
 A5L
 (.skip)))
 (.seq (.ops [mv_ 17 0,
  mv_ 18 7,
  mv_ 19 2,
  so_ 20 (.call 36 [.t 17, .t 18, .t 19]),
  mv_ 6 20] [6])
 (.ret))
def A5M : A3d := .seq (.ops [mv_ 8 1,
  po_ 9 (.conv .u64 (.t 8)),
  mv_ 7 9] [0, 1, 2, 7])
 A5K
def A55 : A3d := .seq (.ops [po_ 6 (.mov (.c (.slice none 0 0)))] [0, 1, 2])
 A5M
def A59 : List VR := [.tmp 6]
theorem A8V : Tryz.f23.body.bind (trC Tryz.prog Tryz.f23.ntmps) = some (er A55) := by kernel_rfl
theorem A8W : trR Tryz.prog Tryz.f23.results.toList = some A59 := by kernel_rfl
def A7v := A3a A5L.eq_1
def A7C := A3a A5K.eq_1
def A7w := A3a A5M.eq_1
def A8x := A3a A55.eq_1
theorem A8B {K : TV → Prop} {e : Env} {H : List Ob} : res A59 e H K = res [.tmp 6] e H K := A29 rfl
def A56 := (And.intro (And.intro (And.intro @A7v @A7C) (And.intro @A7w @A8x)) @A8B)
def A8H := A7f 21 Tryz.func23 A8V A8W rfl

def A83 : A3d := .seq (.ops [po_ 6 (.mov (.c (.slice none 0 0)))] [0, 1, 2])
 (.seq (.ops [mv_ 7 0,
  mv_ 8 1,
  mv_ 9 2,
  so_ 10 (.call 23 [.t 7, .t 8, .t 9]),
  mv_ 6 10] [6])
 (.ret))
def A87 : List VR := [.tmp 6]
theorem BdX : Tryz.f15.body.bind (trC Tryz.prog Tryz.f15.ntmps) = some (er A83) := by kernel_rfl
theorem BdQ : trR Tryz.prog Tryz.f15.results.toList = some A87 := by kernel_rfl
def BcC := A3a A83.eq_1
theorem Bcy {K : TV → Prop} {e : Env} {H : List Ob} : res A87 e H K = res [.tmp 6] e H K := A29 rfl
def A9l := (And.intro @BcC @Bcy)
def Bc4 := A7f 11 Tryz.func15 BdX BdQ rfl

def A5f : A3d := .seq (.seq (.ops [mv_ 11 0,
  po_ 12 (.bin 77 .lss (.t 11) (.c (.int .u64 ((100 : Nat) : Int))))] [0, 12])
 (.cond (.t 12)
 (.seq (.ops [mv_ 13 0,
   po_ 14 (.conv .i64 (.t 13)),
   so_ 15 (.call 46 [.t 14]),
   mv_ 4 15] [4])
  (.ret))
 (.skip)))
 (.seq (.ops [so_ 5 (.alloc (.arr 24 1 [.val (.int .u8 ((0 : Nat) : Int)), .val (.int .u8 ((0 : Nat) : Int)), .val (.int .u8 ((0 : Nat) : Int)), .val (.int .u8 ((0 : Nat) : Int)), .val (.int .u8 ((0 : Nat) : Int)), .val (.int .u8 ((0 : Nat) : Int)), .val (.int .u8 ((0 : Nat) : Int)), .val (.int .u8 ((0 : Nat) : Int)), .val (.int .u8 ((0 : Nat) : Int)), .val (.int .u8 ((0 : Nat) : Int)), .val (.int .u8 ((0 : Nat) : Int)), .val (.int .u8 ((0 : Nat) : Int)), .val (.int .u8 ((0 : Nat) : Int)), .val (.int .u8 ((0 : Nat) : Int)), .val (.int .u8 ((0 : Nat) : Int)), .val (.int .u8 ((0 : Nat) : Int)), .val (.int .u8 ((0 : Nat) : Int)), .val (.int .u8 ((0 : Nat) : Int)), .val (.int .u8 ((0 : Nat) : Int)), .val (.int .u8 ((0 : Nat) : Int)), .val (.int .u8 ((0 : Nat) : Int)), .val (.int .u8 ((0 : Nat) : Int)), .val (.int .u8 ((0 : Nat) : Int)), .val (.int .u8 ((0 : Nat) : Int))]))] [0, 5])
 (.seq (.ops [mv_ 16 0,
  so_ 17 (.call 47 [.t 16]),
  mv_ 6 17] [0, 5, 6])
 (.seq (.ops [mv_ 18 6,
  po_ 19 (.slA 24 1 (.t 5) none (some (.t 18))),
  mv_ 20 0,
  so_ 21 (.call 48 [.t 19, .t 20])] [5, 6])
 (.seq (.ops [mv_ 22 6,
  po_ 23 (.slA 24 1 (.t 5) none (some (.t 22))),
  po_ 24 (.b2s (.t 23)),
  mv_ 4 24] [4])
 (.ret)))))
def A5b : A3d := .cond (.t 10)
 A5f
 (.skip)
def A5n : A3d := .seq (.seq (.ops [mv_ 9 1,
  po_ 10 (.bin 3 .eql (.t 9) (ci_ 10))] [0, 1, 10])
 A5b)
 (.seq (.ops [mv_ 26 0,
  mv_ 27 1,
  so_ 28 (.call 49 [.c (.slice none 0 0), .t 26, .t 27, .c (.bool false), .c (.bool false)]),
  mv_ 25 28,
  po_ 29 (.ext 0 (.t 25)),
  po_ 30 (.ext 1 (.t 25)),
  mv_ 7 29,
  mv_ 8 30] [8])
 (.seq (.ops [mv_ 31 8,
  mv_ 4 31] [4])
 (.ret)))
def A5Z : A3d := .seq (.ops [po_ 4 (.mov (.c (.string (str []))))] [0, 1])
 A5n
def A50 : List VR := [.tmp 4]
theorem A8G : Tryz.f59.body.bind (trC Tryz.prog Tryz.f59.ntmps) = some (er A5Z) := by kernel_rfl
theorem A8I : trR Tryz.prog Tryz.f59.results.toList = some A50 := by kernel_rfl
def A7l := A3a A5f.eq_1
def A7a := A3a A5b.eq_1
def A7t := A3a A5n.eq_1
def A72 := A3a A5Z.eq_1
theorem A74 {K : TV → Prop} {e : Env} {H : List Ob} : res A50 e H K = res [.tmp 4] e H K := A29 rfl
def A3K := (And.intro (And.intro (And.intro @A7l @A7a) (And.intro @A7t @A72)) @A74)
def A8w := A7f 32 Tryz.func59 A8G A8I rfl

def A8P : A3d := .seq (.ops [po_ 4 (.mov (.c (.string (str []))))] [0, 1])
 (.seq (.ops [mv_ 5 0,
  mv_ 6 1,
  so_ 7 (.call 59 [.t 5, .t 6]),
  mv_ 4 7] [4])
 (.ret))
def A8K : List VR := [.tmp 4]
theorem Bdo : Tryz.f45.body.bind (trC Tryz.prog Tryz.f45.ntmps) = some (er A8P) := by kernel_rfl
theorem Bdb : trR Tryz.prog Tryz.f45.results.toList = some A8K := by kernel_rfl
def Bca := A3a A8P.eq_1
theorem Bb7 {K : TV → Prop} {e : Env} {H : List Ob} : res A8K e H K = res [.tmp 4] e H K := A29 rfl
def A8Q := (And.intro @Bca @Bb7)
def Bcx := A7f 8 Tryz.func45 Bdo Bdb rfl

def A4T : A3d := .seq (.draw 11 [mv_ 81 0,
  mv_ 82 4,
  po_ 83 (.bin 3 .sub (.t 82) (ci_ 7)),
  mv_ 84 0,
  mv_ 85 4,
  po_ 86 (.bin 3 .sub (.t 85) (ci_ 8)),
  mv_ 87 10,
  po_ 88 (.bin 78 .add (.t 87) (.c (.int .u32 ((1 : Nat) : Int)))),
  po_ 89 (.idxS (.c (.string A3A)) (.t 88)),
  mv_ 90 10,
  po_ 91 (.idxS (.c (.string A3A)) (.t 90)),
  po_ 92 (.idxA 1 (.t 81) (.t 83)),
  ⟨none, .s (.store 1 (.t 92) (.t 89)), none⟩,
  po_ 93 (.idxA 1 (.t 84) (.t 86)),
  ⟨none, .s (.store 1 (.t 93) (.t 91)), none⟩] [0, 1, 4])
 (.ops [mv_ 94 4,
  po_ 95 (.bin 3 .sub (.t 94) (ci_ 8)),
  mv_ 4 95] [0, 1, 4])
def A4O : A3d := .seq (.draw 11 [mv_ 68 0,
  mv_ 69 4,
  po_ 70 (.bin 3 .sub (.t 69) (ci_ 5)),
  mv_ 71 0,
  mv_ 72 4,
  po_ 73 (.bin 3 .sub (.t 72) (ci_ 6)),
  mv_ 74 11,
  po_ 75 (.bin 78 .add (.t 74) (.c (.int .u32 ((1 : Nat) : Int)))),
  po_ 76 (.idxS (.c (.string A3A)) (.t 75)),
  mv_ 77 11,
  po_ 78 (.idxS (.c (.string A3A)) (.t 77)),
  po_ 79 (.idxA 1 (.t 68) (.t 70)),
  ⟨none, .s (.store 1 (.t 79) (.t 76)), none⟩,
  po_ 80 (.idxA 1 (.t 71) (.t 73)),
  ⟨none, .s (.store 1 (.t 80) (.t 78)), none⟩] [0, 1, 4, 10])
 A4T
def A4P : A3d := .seq (.draw 11 [mv_ 55 0,
  mv_ 56 4,
  po_ 57 (.bin 3 .sub (.t 56) (ci_ 3)),
  mv_ 58 0,
  mv_ 59 4,
  po_ 60 (.bin 3 .sub (.t 59) (ci_ 4)),
  mv_ 61 8,
  po_ 62 (.bin 78 .add (.t 61) (.c (.int .u32 ((1 : Nat) : Int)))),
  po_ 63 (.idxS (.c (.string A3A)) (.t 62)),
  mv_ 64 8,
  po_ 65 (.idxS (.c (.string A3A)) (.t 64)),
  po_ 66 (.idxA 1 (.t 55) (.t 57)),
  ⟨none, .s (.store 1 (.t 66) (.t 63)), none⟩,
  po_ 67 (.idxA 1 (.t 58) (.t 60)),
  ⟨none, .s (.store 1 (.t 67) (.t 65)), none⟩] [0, 1, 4, 10, 11])
 A4O
def A4S : A3d := .seq (.draw 11 [mv_ 42 0,
  mv_ 43 4,
  po_ 44 (.bin 3 .sub (.t 43) (ci_ 1)),
  mv_ 45 0,
  mv_ 46 4,
  po_ 47 (.bin 3 .sub (.t 46) (ci_ 2)),
  mv_ 48 9,
  po_ 49 (.bin 78 .add (.t 48) (.c (.int .u32 ((1 : Nat) : Int)))),
  po_ 50 (.idxS (.c (.string A3A)) (.t 49)),
  mv_ 51 9,
  po_ 52 (.idxS (.c (.string A3A)) (.t 51)),
  po_ 53 (.idxA 1 (.t 42) (.t 44)),
  ⟨none, .s (.store 1 (.t 53) (.t 50)), none⟩,
  po_ 54 (.idxA 1 (.t 45) (.t 47)),
  ⟨none, .s (.store 1 (.t 54) (.t 52)), none⟩] [0, 1, 4, 8, 10, 11])
 A4P
def A4Q : A3d := .seq (.ops [mv_ 36 6,
  po_ 37 (.bin 78 .quo (.t 36) (.c (.int .u32 ((100 : Nat) : Int)))),
  po_ 38 (.bin 78 .mul (.t 37) (.c (.int .u32 ((2 : Nat) : Int)))),
  mv_ 39 6,
  po_ 40 (.bin 78 .rem (.t 39) (.c (.int .u32 ((100 : Nat) : Int)))),
  po_ 41 (.bin 78 .mul (.t 40) (.c (.int .u32 ((2 : Nat) : Int)))),
  mv_ 10 38,
  mv_ 11 41] [0, 1, 4, 8, 9, 10, 11])
 A4S
def A4U : A3d := .seq (.ops [mv_ 30 7,
  po_ 31 (.bin 78 .quo (.t 30) (.c (.int .u32 ((100 : Nat) : Int)))),
  po_ 32 (.bin 78 .mul (.t 31) (.c (.int .u32 ((2 : Nat) : Int)))),
  mv_ 33 7,
  po_ 34 (.bin 78 .rem (.t 33) (.c (.int .u32 ((100 : Nat) : Int)))),
  po_ 35 (.bin 78 .mul (.t 34) (.c (.int .u32 ((2 : Nat) : Int)))),
  mv_ 8 32,
  mv_ 9 35] [0, 1, 4, 6, 8, 9])
 A4Q
def A39 : A3d := .seq (.ops [mv_ 26 5,
  po_ 27 (.bin 78 .quo (.t 26) (.c (.int .u32 ((10000 : Nat) : Int)))),
  mv_ 28 5,
  po_ 29 (.bin 78 .rem (.t 28) (.c (.int .u32 ((10000 : Nat) : Int)))),
  mv_ 6 27,
  mv_ 7 29] [0, 1, 4, 6, 7])
 A4U
def A4R : A3d := .seq (.ops [mv_ 24 1,
  po_ 25 (.bin 77 .quo (.t 24) (.c (.int .u64 ((100000000 : Nat) : Int)))),
  mv_ 1 25] [0, 1, 4, 5])
 A39
def A4V : A3d := .block 1 (.seq (.ops [mv_ 21 1,
  po_ 22 (.bin 77 .rem (.t 21) (.c (.int .u64 ((100000000 : Nat) : Int)))),
  po_ 23 (.conv .u32 (.t 22)),
  mv_ 5 23] [0, 1, 4, 5])
 A4R)
def A4x : A3d := .seq (.seq (.ops [mv_ 19 4,
  po_ 20 (.bin 3 .geq (.t 19) (ci_ 8))] [0, 1, 4, 20])
 (.cond (.t 20)
 (.skip)
 (.exit 0)))
 A4V
def A4y : A3d := .seq (.draw 11 [mv_ 123 0,
  mv_ 124 4,
  po_ 125 (.bin 3 .sub (.t 124) (ci_ 3)),
  mv_ 126 0,
  mv_ 127 4,
  po_ 128 (.bin 3 .sub (.t 127) (ci_ 4)),
  mv_ 129 14,
  po_ 130 (.bin 78 .add (.t 129) (.c (.int .u32 ((1 : Nat) : Int)))),
  po_ 131 (.idxS (.c (.string A3A)) (.t 130)),
  mv_ 132 14,
  po_ 133 (.idxS (.c (.string A3A)) (.t 132)),
  po_ 134 (.idxA 1 (.t 123) (.t 125)),
  ⟨none, .s (.store 1 (.t 134) (.t 131)), none⟩,
  po_ 135 (.idxA 1 (.t 126) (.t 128)),
  ⟨none, .s (.store 1 (.t 135) (.t 133)), none⟩] [0, 4, 12])
 (.ops [mv_ 136 4,
  po_ 137 (.bin 3 .sub (.t 136) (ci_ 4)),
  mv_ 4 137] [0, 4, 12])
def A4I : A3d := .seq (.draw 11 [mv_ 110 0,
  mv_ 111 4,
  po_ 112 (.bin 3 .sub (.t 111) (ci_ 1)),
  mv_ 113 0,
  mv_ 114 4,
  po_ 115 (.bin 3 .sub (.t 114) (ci_ 2)),
  mv_ 116 15,
  po_ 117 (.bin 78 .add (.t 116) (.c (.int .u32 ((1 : Nat) : Int)))),
  po_ 118 (.idxS (.c (.string A3A)) (.t 117)),
  mv_ 119 15,
  po_ 120 (.idxS (.c (.string A3A)) (.t 119)),
  po_ 121 (.idxA 1 (.t 110) (.t 112)),
  ⟨none, .s (.store 1 (.t 121) (.t 118)), none⟩,
  po_ 122 (.idxA 1 (.t 113) (.t 115)),
  ⟨none, .s (.store 1 (.t 122) (.t 120)), none⟩] [0, 4, 12, 14])
 A4y
def A4w : A3d := .seq (.ops [mv_ 104 13,
  po_ 105 (.bin 78 .quo (.t 104) (.c (.int .u32 ((100 : Nat) : Int)))),
  po_ 106 (.bin 78 .mul (.t 105) (.c (.int .u32 ((2 : Nat) : Int)))),
  mv_ 107 13,
  po_ 108 (.bin 78 .rem (.t 107) (.c (.int .u32 ((100 : Nat) : Int)))),
  po_ 109 (.bin 78 .mul (.t 108) (.c (.int .u32 ((2 : Nat) : Int)))),
  mv_ 14 106,
  mv_ 15 109] [0, 4, 12, 14, 15])
 A4I
def A4D : A3d := .seq (.ops [mv_ 102 12,
  po_ 103 (.bin 78 .quo (.t 102) (.c (.int .u32 ((10000 : Nat) : Int)))),
  mv_ 12 103] [0, 4, 12, 13])
 A4w
def A4C : A3d := .seq (.ops [mv_ 100 12,
  po_ 101 (.bin 78 .rem (.t 100) (.c (.int .u32 ((10000 : Nat) : Int)))),
  mv_ 13 101] [0, 4, 12, 13])
 A4D
def A4B : A3d := .cond (.t 99)
 A4C
 (.skip)
def A4F : A3d := .seq (.draw 11 [mv_ 145 0,
  mv_ 146 4,
  po_ 147 (.bin 3 .sub (.t 146) (ci_ 1)),
  mv_ 148 0,
  mv_ 149 4,
  po_ 150 (.bin 3 .sub (.t 149) (ci_ 2)),
  mv_ 151 16,
  po_ 152 (.bin 78 .add (.t 151) (.c (.int .u32 ((1 : Nat) : Int)))),
  po_ 153 (.idxS (.c (.string A3A)) (.t 152)),
  mv_ 154 16,
  po_ 155 (.idxS (.c (.string A3A)) (.t 154)),
  po_ 156 (.idxA 1 (.t 145) (.t 147)),
  ⟨none, .s (.store 1 (.t 156) (.t 153)), none⟩,
  po_ 157 (.idxA 1 (.t 148) (.t 150)),
  ⟨none, .s (.store 1 (.t 157) (.t 155)), none⟩] [0, 4, 12])
 (.ops [mv_ 158 4,
  po_ 159 (.bin 3 .sub (.t 158) (ci_ 2)),
  mv_ 4 159] [0, 4, 12])
def A4J : A3d := .seq (.ops [mv_ 143 12,
  po_ 144 (.bin 78 .quo (.t 143) (.c (.int .u32 ((100 : Nat) : Int)))),
  mv_ 12 144] [0, 4, 12, 16])
 A4F
def A4K : A3d := .seq (.ops [mv_ 140 12,
  po_ 141 (.bin 78 .rem (.t 140) (.c (.int .u32 ((100 : Nat) : Int)))),
  po_ 142 (.bin 78 .mul (.t 141) (.c (.int .u32 ((2 : Nat) : Int)))),
  mv_ 16 142] [0, 4, 12, 16])
 A4J
def A4H : A3d := .cond (.t 139)
 A4K
 (.skip)
def A34 : A3d := .seq (.seq (.ops [mv_ 138 4,
  po_ 139 (.bin 3 .geq (.t 138) (ci_ 2))] [0, 4, 12, 139])
 A4H)
 (.seq (.ops [mv_ 160 4,
  po_ 161 (.bin 3 .gtr (.t 160) (ci_ 0))] [0, 12, 161])
 (.cond (.t 161)
 (.ops [mv_ 162 0,
   mv_ 163 12,
   po_ 164 (.bin 78 .add (.c (.int .u32 ((48 : Nat) : Int))) (.t 163)),
   po_ 165 (.conv .u8 (.t 164)),
   po_ 166 (.idxA 1 (.t 162) (ci_ 0)),
   ⟨none, .s (.store 1 (.t 166) (.t 165)), none⟩] [])
 (.skip)))
def A35 : A3d := .seq (.seq (.ops [mv_ 98 4,
  po_ 99 (.bin 3 .geq (.t 98) (ci_ 4))] [0, 4, 12, 99])
 A4B)
 A34
def A4z : A3d := .seq (.ops [mv_ 96 1,
  po_ 97 (.conv .u32 (.t 96)),
  mv_ 12 97] [0, 4, 12])
 A35
def A4G : A3d := .seq (.block 0 (.loop [0, 1, 4] A4x))
 A4z
def A5J : A3d := .seq (.ops [mv_ 17 0,
  po_ 18 (.lenV (.t 17)),
  mv_ 4 18] [0, 1, 4])
 A4G
def A3W : List VR := []
theorem A79 : Tryz.f48.body.bind (trC Tryz.prog Tryz.f48.ntmps) = some (er A5J) := by kernel_rfl
theorem A76 : trR Tryz.prog Tryz.f48.results.toList = some A3W := by kernel_rfl
def A6w := A3a A4T.eq_1
def A6A := A3a A4O.eq_1
def A6B := A3a A4P.eq_1
def A6x := A3a A4S.eq_1
def A6y := A3a A4Q.eq_1
def A6v := A3a A4U.eq_1
def A6u := A3a A39.eq_1
def A6I := A3a A4R.eq_1
def A6F := A3a A4V.eq_1
def A4n := A3a A4x.eq_1
def A6l := A3a A4y.eq_1
def A6r := A3a A4I.eq_1
def A6j := A3a A4w.eq_1
def A6p := A3a A4D.eq_1
def A6m := A3a A4C.eq_1
def A4m := A3a A4B.eq_1
def A4r := A3a A4F.eq_1
def A4o := A3a A4J.eq_1
def A4q := A3a A4K.eq_1
def A3C := A3a A4H.eq_1
def A3B := A3a A34.eq_1
def A4l := A3a A35.eq_1
def A6q := A3a A4z.eq_1
def A6k := A3a A4G.eq_1
def A7P := A3a A5J.eq_1
theorem A3T {K : TV → Prop} {e : Env} {H : List Ob} : res A3W e H K = res [] e H K := A29 rfl
def A7U := A7f 167 Tryz.func48 A79 A76 rfl

def A8f : A3d := .seq (.ops [mv_ 65 0,
  po_ 66 (.lenS (.t 65)),
  po_ 67 (.bin 3 .geq (.t 66) (ci_ 3)),
  mv_ 68 67,
  ⟨some 69, .p (.mov (.t 0)), some ⟨68, true⟩⟩,
  ⟨some 70, .p (.idxS (.t 69) (ci_ 1)), some ⟨68, true⟩⟩,
  ⟨some 71, .s (.call 71 [.t 70]), some ⟨68, true⟩⟩,
  ⟨some 72, .p (.bin 5 .eql (.t 71) (.c (.int .u8 ((120 : Nat) : Int)))), some ⟨68, true⟩⟩,
  po_ 73 (.pick (.t 68) (.t 72) (.c (.bool false))),
  mv_ 64 73] [0, 2, 8, 9, 64])
 (.cond (.t 64)
 (.seq (.ops [po_ 1 (.mov (ci_ 16))] [0, 1, 2, 8, 9])
  (.ops [mv_ 74 0,
   po_ 75 (.slS (.t 74) (some (ci_ 2)) none),
   mv_ 0 75] [0, 1, 2, 8, 9]))
 (.seq (.ops [po_ 1 (.mov (ci_ 8))] [0, 1, 2, 8, 9])
  (.ops [mv_ 38 0,
   po_ 39 (.slS (.t 38) (some (ci_ 1)) none),
   mv_ 0 39] [0, 1, 2, 8, 9])))
def A8i : A3d := .cond (.t 52)
 (.seq (.ops [po_ 1 (.mov (ci_ 8))] [0, 1, 2, 8, 9])
  (.ops [mv_ 62 0,
   po_ 63 (.slS (.t 62) (some (ci_ 2)) none),
   mv_ 0 63] [0, 1, 2, 8, 9]))
 A8f
def A8l : A3d := .seq (.ops [mv_ 53 0,
  po_ 54 (.lenS (.t 53)),
  po_ 55 (.bin 3 .geq (.t 54) (ci_ 3)),
  mv_ 56 55,
  ⟨some 57, .p (.mov (.t 0)), some ⟨56, true⟩⟩,
  ⟨some 58, .p (.idxS (.t 57) (ci_ 1)), some ⟨56, true⟩⟩,
  ⟨some 59, .s (.call 71 [.t 58]), some ⟨56, true⟩⟩,
  ⟨some 60, .p (.bin 5 .eql (.t 59) (.c (.int .u8 ((111 : Nat) : Int)))), some ⟨56, true⟩⟩,
  po_ 61 (.pick (.t 56) (.t 60) (.c (.bool false))),
  mv_ 52 61] [0, 2, 8, 9, 52])
 A8i
def A8h : A3d := .cond (.t 40)
 (.seq (.ops [po_ 1 (.mov (ci_ 2))] [0, 1, 2, 8, 9])
  (.ops [mv_ 50 0,
   po_ 51 (.slS (.t 50) (some (ci_ 2)) none),
   mv_ 0 51] [0, 1, 2, 8, 9]))
 A8l
def A73 : A3d := .block 1 (.seq (.ops [mv_ 41 0,
  po_ 42 (.lenS (.t 41)),
  po_ 43 (.bin 3 .geq (.t 42) (ci_ 3)),
  mv_ 44 43,
  ⟨some 45, .p (.mov (.t 0)), some ⟨44, true⟩⟩,
  ⟨some 46, .p (.idxS (.t 45) (ci_ 1)), some ⟨44, true⟩⟩,
  ⟨some 47, .s (.call 71 [.t 46]), some ⟨44, true⟩⟩,
  ⟨some 48, .p (.bin 5 .eql (.t 47) (.c (.int .u8 ((98 : Nat) : Int)))), some ⟨44, true⟩⟩,
  po_ 49 (.pick (.t 44) (.t 48) (.c (.bool false))),
  mv_ 40 49] [0, 2, 8, 9, 40])
 A8h)
def A8e : A3d := .cond (.t 37)
 A73
 (.skip)
def A70 : A3d := .seq (.ops [mv_ 35 0,
  po_ 36 (.idxS (.t 35) (ci_ 0)),
  po_ 37 (.bin 5 .eql (.t 36) (.c (.int .u8 ((48 : Nat) : Int))))] [0, 1, 2, 8, 9, 37])
 A8e
def A77 : A3d := .seq (.ops [po_ 1 (.mov (ci_ 10))] [0, 1, 2, 8, 9])
 A70
def A7Z : A3d := .cond (.t 32)
 A77
 (.seq (.ops [po_ 24 (.iface 132 (ci_ 3)),
   po_ 6 (.mov (.c (.int .u64 ((0 : Nat) : Int)))),
   mv_ 7 24] [6, 7])
  (.ret))
def A7S : A3d := .seq (.ops [mv_ 33 1,
  po_ 34 (.bin 3 .eql (.t 33) (ci_ 0)),
  mv_ 32 34] [0, 2, 8, 9, 32])
 A7Z
def A5k : A3d := .cond (.t 25)
 (.skip)
 A7S
def A5I : A3d := .seq (.ops [mv_ 78 2,
  po_ 79 (.bin 3 .lss (.t 78) (ci_ 0)),
  mv_ 80 79,
  ⟨some 81, .p (.mov (.t 2)), some ⟨80, false⟩⟩,
  ⟨some 82, .p (.bin 3 .gtr (.t 81) (ci_ 64)), some ⟨80, false⟩⟩,
  po_ 83 (.pick (.t 80) (.c (.bool true)) (.t 82))] [0, 1, 2, 8, 9, 83])
 (.cond (.t 83)
 (.seq (.ops [po_ 84 (.iface 132 (ci_ 4)),
   po_ 6 (.mov (.c (.int .u64 ((0 : Nat) : Int)))),
   mv_ 7 84] [6, 7])
  (.ret))
 (.skip))
def A7T : A3d := .seq (.ops [po_ 93 (.bin 3 .eql (.t 85) (ci_ 16)),
  mv_ 92 93] [0, 1, 2, 8, 9, 92])
 (.cond (.t 92)
 (.ops [po_ 10 (.mov (.c (.int .u64 ((1152921504606846976 : Nat) : Int))))] [0, 1, 2, 8, 9, 10])
 (.ops [mv_ 86 1,
   po_ 87 (.conv .u64 (.t 86)),
   po_ 88 (.bin 77 .quo (.c (.int .u64 ((18446744073709551615 : Nat) : Int))) (.t 87)),
   po_ 89 (.bin 77 .add (.t 88) (.c (.int .u64 ((1 : Nat) : Int)))),
   mv_ 10 89] [0, 1, 2, 8, 9, 10]))
def A5c : A3d := .seq (.ops [mv_ 122 15,
  so_ 123 (.call 71 [.t 122]),
  po_ 124 (.bin 5 .leq (.c (.int .u8 ((97 : Nat) : Int))) (.t 123)),
  mv_ 125 124,
  ⟨some 126, .p (.mov (.t 15)), some ⟨125, true⟩⟩,
  ⟨some 127, .s (.call 71 [.t 126]), some ⟨125, true⟩⟩,
  ⟨some 128, .p (.bin 5 .leq (.t 127) (.c (.int .u8 ((122 : Nat) : Int)))), some ⟨125, true⟩⟩,
  po_ 129 (.pick (.t 125) (.t 128) (.c (.bool false))),
  mv_ 121 129] [1, 8, 9, 10, 11, 12, 13, 15, 99, 100, 101, 121])
 (.cond (.t 121)
 (.ops [mv_ 130 15,
   so_ 131 (.call 71 [.t 130]),
   po_ 132 (.bin 5 .sub (.t 131) (.c (.int .u8 ((97 : Nat) : Int)))),
   po_ 133 (.bin 5 .add (.t 132) (.c (.int .u8 ((10 : Nat) : Int)))),
   mv_ 16 133] [1, 8, 9, 10, 11, 12, 13, 16, 99, 100, 101])
 (.seq (.ops [po_ 105 (.iface 132 (ci_ 2)),
   po_ 6 (.mov (.c (.int .u64 ((0 : Nat) : Int)))),
   mv_ 7 105] [6, 7])
  (.ret)))
def A5m : A3d := .cond (.t 112)
 (.ops [mv_ 119 15,
   po_ 120 (.bin 5 .sub (.t 119) (.c (.int .u8 ((48 : Nat) : Int)))),
   mv_ 16 120] [1, 8, 9, 10, 11, 12, 13, 16, 99, 100, 101])
 A5c
def A5w : A3d := .seq (.ops [mv_ 113 15,
  po_ 114 (.bin 5 .leq (.c (.int .u8 ((48 : Nat) : Int))) (.t 113)),
  mv_ 115 114,
  ⟨some 116, .p (.mov (.t 15)), some ⟨115, true⟩⟩,
  ⟨some 117, .p (.bin 5 .leq (.t 116) (.c (.int .u8 ((57 : Nat) : Int)))), some ⟨115, true⟩⟩,
  po_ 118 (.pick (.t 115) (.t 117) (.c (.bool false))),
  mv_ 112 118] [1, 8, 9, 10, 11, 12, 13, 15, 99, 100, 101, 112])
 A5m
def A5v : A3d := .cond (.t 106)
 (.seq (.ops [po_ 12 (.mov (.c (.bool true)))] [1, 8, 9, 10, 11, 12, 13, 99, 100, 101])
  (.exit 4))
 A5w
def A5h : A3d := .seq (.seq (.ops [mv_ 152 17,
  mv_ 153 13,
  po_ 154 (.bin 77 .lss (.t 152) (.t 153)),
  mv_ 155 154,
  ⟨some 156, .p (.mov (.t 17)), some ⟨155, false⟩⟩,
  ⟨some 157, .p (.mov (.t 11)), some ⟨155, false⟩⟩,
  ⟨some 158, .p (.bin 77 .gtr (.t 156) (.t 157)), some ⟨155, false⟩⟩,
  po_ 159 (.pick (.t 155) (.c (.bool true)) (.t 158))] [1, 8, 9, 10, 11, 12, 17, 99, 100, 101, 159])
 (.cond (.t 159)
 (.seq (.ops [mv_ 160 11,
   po_ 161 (.iface 132 (ci_ 1)),
   mv_ 6 160,
   mv_ 7 161] [6, 7])
  (.ret))
 (.skip)))
 (.ops [mv_ 162 17,
  mv_ 13 162] [1, 8, 9, 10, 11, 12, 13, 99, 100, 101])
def A5l : A3d := .seq (.ops [mv_ 148 13,
  mv_ 149 16,
  po_ 150 (.conv .u64 (.t 149)),
  po_ 151 (.bin 77 .add (.t 148) (.t 150)),
  mv_ 17 151] [1, 8, 9, 10, 11, 12, 13, 17, 99, 100, 101])
 A5h
def A5B : A3d := .seq (.ops [mv_ 144 13,
  mv_ 145 1,
  po_ 146 (.conv .u64 (.t 145)),
  po_ 147 (.bin 77 .mul (.t 144) (.t 146)),
  mv_ 13 147] [1, 8, 9, 10, 11, 12, 13, 16, 99, 100, 101])
 A5l
def A5r : A3d := .seq (.seq (.ops [mv_ 139 13,
  mv_ 140 10,
  po_ 141 (.bin 77 .geq (.t 139) (.t 140))] [1, 8, 9, 10, 11, 12, 13, 16, 99, 100, 101, 141])
 (.cond (.t 141)
 (.seq (.ops [mv_ 142 11,
   po_ 143 (.iface 132 (ci_ 1)),
   mv_ 6 142,
   mv_ 7 143] [6, 7])
  (.ret))
 (.skip)))
 A5B
def A5q : A3d := .seq (.seq (.ops [mv_ 134 16,
  mv_ 135 1,
  po_ 136 (.conv .u8 (.t 135)),
  po_ 137 (.bin 5 .geq (.t 134) (.t 136))] [1, 8, 9, 10, 11, 12, 13, 16, 99, 100, 101, 137])
 (.cond (.t 137)
 (.seq (.ops [po_ 138 (.iface 132 (ci_ 2)),
   po_ 6 (.mov (.c (.int .u64 ((0 : Nat) : Int)))),
   mv_ 7 138] [6, 7])
  (.ret))
 (.skip)))
 A5r
def A48 : A3d := .seq (.block 5 (.seq (.ops [mv_ 107 15,
  po_ 108 (.bin 5 .eql (.t 107) (.c (.int .u8 ((95 : Nat) : Int)))),
  mv_ 109 108,
  ⟨some 110, .p (.mov (.t 8)), some ⟨109, true⟩⟩,
  po_ 111 (.pick (.t 109) (.t 110) (.c (.bool false))),
  mv_ 106 111] [1, 8, 9, 10, 11, 12, 13, 15, 99, 100, 101, 106])
 A5v))
 A5q
def A5y : A3d := .seq (.ops [po_ 16 (.mov (.c (.int .u8 ((0 : Nat) : Int))))] [1, 8, 9, 10, 11, 12, 13, 15, 99, 100, 101])
 A48
def A5d : A3d := .seq (.block 4 (.seq (.ops [po_ 103 (.idxA 1 (.t 99) (.t 101)),
  po_ 104 (.load false 1 (.t 103)),
  mv_ 15 104] [1, 8, 9, 10, 11, 12, 13, 15, 99, 100, 101])
 A5y))
 (.ops [po_ 163 (.bin 3 .add (.t 101) (ci_ 1)),
  mv_ 101 163] [1, 8, 9, 10, 11, 12, 13, 99, 100, 101])
def A5s : A3d := .seq (.cond (.t 102)
 (.skip)
 (.exit 3))
 A5d
def A5z : A3d := .seq (.ops [po_ 102 (.bin 3 .lss (.t 101) (.t 100))] [1, 8, 9, 10, 11, 12, 13, 99, 100, 101, 102])
 A5s
def A5C : A3d := .block 3 (.loop [1, 8, 9, 10, 11, 12, 13, 99, 100, 101] A5z)
def A5F : A3d := .seq (.seq (.ops [mv_ 164 12,
  mv_ 165 164,
  ⟨some 166, .p (.mov (.t 9)), some ⟨165, true⟩⟩,
  ⟨some 167, .s (.call 72 [.t 166]), some ⟨165, true⟩⟩,
  ⟨some 168, .p (.un .not (.t 167)), some ⟨165, true⟩⟩,
  po_ 169 (.pick (.t 165) (.t 168) (.c (.bool false)))] [13, 169])
 (.cond (.t 169)
 (.seq (.ops [po_ 170 (.iface 132 (ci_ 2)),
   po_ 6 (.mov (.c (.int .u64 ((0 : Nat) : Int)))),
   mv_ 7 170] [6, 7])
  (.ret))
 (.skip)))
 (.seq (.ops [mv_ 171 13,
  mv_ 6 171,
  po_ 7 (.mov (.c .nilIface))] [6, 7])
 (.ret))
def A5i : A3d := .seq (.seq (.ops [mv_ 98 0,
  so_ 99 (.s2b (.t 98)),
  po_ 100 (.lenV (.t 99)),
  po_ 101 (.mov (ci_ 0))] [1, 8, 9, 10, 11, 12, 13, 99, 100, 101])
 A5C)
 A5F
def A5e : A3d := .seq (.ops [po_ 13 (.mov (.c (.int .u64 ((0 : Nat) : Int))))] [0, 1, 8, 9, 10, 11, 12, 13])
 A5i
def A5G : A3d := .seq (.ops [po_ 12 (.mov (.c (.bool false)))] [0, 1, 8, 9, 10, 11, 12])
 A5e
def A5j : A3d := .seq (.ops [mv_ 94 2,
  po_ 95 (.conv .u64 (.t 94)),
  po_ 96 (.bin 77 .shl (.c (.int .u64 ((1 : Nat) : Int))) (.t 95)),
  po_ 97 (.bin 77 .sub (.t 96) (.c (.int .u64 ((1 : Nat) : Int)))),
  mv_ 11 97] [0, 1, 8, 9, 10, 11])
 A5G
def A5D : A3d := .seq (.seq (.ops [mv_ 85 1] [0, 1, 2, 8, 9, 85])
 (.block 2 (.seq (.ops [po_ 91 (.bin 3 .eql (.t 85) (ci_ 10)),
  mv_ 90 91] [0, 1, 2, 8, 9, 85, 90])
 (.cond (.t 90)
 (.ops [po_ 10 (.mov (.c (.int .u64 ((1844674407370955162 : Nat) : Int))))] [0, 1, 2, 8, 9, 10])
 A7T))))
 A5j
def A5u : A3d := .seq (.ops [po_ 10 (.mov (.c (.int .u64 ((0 : Nat) : Int))))] [0, 1, 2, 8, 9])
 A5D
def A5a : A3d := .seq (.seq (.ops [mv_ 76 2,
  po_ 77 (.bin 3 .eql (.t 76) (ci_ 0))] [0, 1, 2, 8, 9, 77])
 (.cond (.t 77)
 (.ops [po_ 2 (.mov (ci_ 64))] [0, 1, 2, 8, 9])
 A5I))
 A5u
def A5t : A3d := .seq (.block 0 (.seq (.ops [mv_ 26 1,
  po_ 27 (.bin 3 .leq (ci_ 2) (.t 26)),
  mv_ 28 27,
  ⟨some 29, .p (.mov (.t 1)), some ⟨28, true⟩⟩,
  ⟨some 30, .p (.bin 3 .leq (.t 29) (ci_ 36)), some ⟨28, true⟩⟩,
  po_ 31 (.pick (.t 28) (.t 30) (.c (.bool false))),
  mv_ 25 31] [0, 1, 2, 8, 9, 25])
 A5k))
 A5a
def A49 : A3d := .seq (.ops [mv_ 23 0,
  mv_ 9 23] [0, 1, 2, 8, 9])
 A5t
def A5A : A3d := .seq (.ops [mv_ 21 1,
  po_ 22 (.bin 3 .eql (.t 21) (ci_ 0)),
  mv_ 8 22] [0, 1, 2, 8])
 A49
def A5o : A3d := .seq (.seq (.ops [mv_ 18 0,
  po_ 19 (.bin 9 .eql (.t 18) (.c (.string (str []))))] [0, 1, 2, 19])
 (.cond (.t 19)
 (.seq (.ops [po_ 20 (.iface 132 (ci_ 2)),
   po_ 6 (.mov (.c (.int .u64 ((0 : Nat) : Int)))),
   mv_ 7 20] [6, 7])
  (.ret))
 (.skip)))
 A5A
def A58 : A3d := .seq (.ops [po_ 6 (.mov (.c (.int .u64 ((0 : Nat) : Int)))),
  po_ 7 (.mov (.c .nilIface))] [0, 1, 2])
 A5o
def A54 : List VR := [.tmp 6, .tmp 7]
theorem A8Z : Tryz.f57.body.bind (trC Tryz.prog Tryz.f57.ntmps) = some (er A58) := by kernel_rfl
theorem A8Y : trR Tryz.prog Tryz.f57.results.toList = some A54 := by kernel_rfl
def A7e := A3a A5k.eq_1
def A7s := A3a A5I.eq_1
def A4a := A3a A5c.eq_1
def A3v := A3a A5m.eq_1
def A3P := A3a A5w.eq_1
def A3Q := A3a A5v.eq_1
def A67 := A3a A5h.eq_1
def A65 := A3a A5l.eq_1
def A66 := A3a A5B.eq_1
def A4W := A3a A5r.eq_1
def A3L := A3a A5q.eq_1
def A3O := A3a A48.eq_1
def A3N := A3a A5y.eq_1
def A3M := A3a A5d.eq_1
def A3u := A3a A5s.eq_1
def A3w := A3a A5z.eq_1
def A7p := A3a A5C.eq_1
def A7i := A3a A5F.eq_1
def A7r := A3a A5i.eq_1
def A7m := A3a A5e.eq_1
def A7k := A3a A5G.eq_1
def A7n := A3a A5j.eq_1
def A7g := A3a A5D.eq_1
def A7o := A3a A5u.eq_1
def A7q := A3a A5a.eq_1
def A69 := A3a A5t.eq_1
def A7j := A3a A49.eq_1
def A7b := A3a A5A.eq_1
def A4X := A3a A5o.eq_1
def A5P := A3a A58.eq_1
theorem A3h {K : TV → Prop} {e : Env} {H : List Ob} : res A54 e H K = res [.tmp 6, .tmp 7] e H K := A29 rfl
def A8D := A7f 172 Tryz.func57 A8Z A8Y rfl

def A64 : A3d := .seq (.ops [po_ 2 (.mov (.c (.int .u8 ((0 : Nat) : Int))))] [0])
 (.seq (.ops [mv_ 3 0,
  po_ 4 (.bin 5 .or (.t 3) (.c (.int .u8 ((32 : Nat) : Int)))),
  mv_ 2 4] [2])
 (.ret))
def A63 : List VR := [.tmp 2]
theorem Bav : Tryz.f71.body.bind (trC Tryz.prog Tryz.f71.ntmps) = some (er A64) := by kernel_rfl
theorem Ba9 : trR Tryz.prog Tryz.f71.results.toList = some A63 := by kernel_rfl
def A9q := A3a A64.eq_1
theorem A9s {K : TV → Prop} {e : Env} {H : List Ob} : res A63 e H K = res [.tmp 2] e H K := A29 rfl
def Ban := (And.intro @A9q @A9s)
def A94 := A7f 5 Tryz.func71 Bav Ba9 rfl

def A7X : A3d := .seq (.ops [mv_ 19 8,
  mv_ 20 0,
  mv_ 21 1,
  mv_ 22 2,
  mv_ 23 9,
  so_ 24 (.call 58 [.c (.string (str [80, 97, 114, 115, 101, 85, 105, 110, 116])), .t 20, .t 21, .t 22, .t 23]),
  mv_ 6 19,
  mv_ 7 24] [6, 7])
 (.ret)
def A7V : A3d := .seq (.seq (.ops [mv_ 17 9,
  po_ 18 (.eqN 1 (.t 17) (.c .nilIface) true)] [0, 1, 2, 8, 9, 18])
 (.cond (.t 18)
 A7X
 (.skip)))
 (.seq (.ops [mv_ 25 8,
  mv_ 6 25,
  po_ 7 (.mov (.c .nilIface))] [6, 7])
 (.ret))
def A7Y : A3d := .seq (.ops [mv_ 11 0,
  mv_ 12 1,
  mv_ 13 2,
  so_ 14 (.call 57 [.t 11, .t 12, .t 13]),
  mv_ 10 14,
  po_ 15 (.ext 0 (.t 10)),
  po_ 16 (.ext 1 (.t 10)),
  mv_ 8 15,
  mv_ 9 16] [0, 1, 2, 8, 9])
 A7V
def A9m : A3d := .seq (.ops [po_ 6 (.mov (.c (.int .u64 ((0 : Nat) : Int)))),
  po_ 7 (.mov (.c .nilIface))] [0, 1, 2])
 A7Y
def A9i : List VR := [.tmp 6, .tmp 7]
theorem BeL : Tryz.f44.body.bind (trC Tryz.prog Tryz.f44.ntmps) = some (er A9m) := by kernel_rfl
theorem Bd6 : trR Tryz.prog Tryz.f44.results.toList = some A9i := by kernel_rfl
def Baz := A3a A7X.eq_1
def Bba := A3a A7V.eq_1
def BaL := A3a A7Y.eq_1
def BcB := A3a A9m.eq_1
theorem Bch {K : TV → Prop} {e : Env} {H : List Ob} : res A9i e H K = res [.tmp 6, .tmp 7] e H K := A29 rfl
def A5V := (And.intro (And.intro (And.intro @Baz @Bba) (And.intro @BaL @BcB)) @Bch)
def Bdg := A7f 26 Tryz.func44 BeL Bd6 rfl

def BaP : A3d := .seq (.seq (.ops [mv_ 6 0,
  po_ 7 (.bin 3 .gtr (.t 6) (ci_ 0))] [0, 3, 7])
 (.cond (.t 7)
 (.skip)
 (.exit 0)))
 (.block 1 (.seq (.ops [mv_ 8 0,
  po_ 9 (.bin 3 .rem (.t 8) (ci_ 10)),
  po_ 10 (.bin 3 .add (ci_ 48) (.t 9)),
  po_ 11 (.conv .u8 (.t 10)),
  ⟨some 12, .s (.bslice 1 1 (.val (.int .u8 ((0 : Nat) : Int))) [⟨0, .t 11⟩]), none⟩,
  po_ 13 (.b2s (.t 12)),
  mv_ 14 3,
  po_ 15 (.bin 9 .add (.t 13) (.t 14)),
  mv_ 3 15] [0, 3])
 (.ops [mv_ 16 0,
  po_ 17 (.bin 3 .quo (.t 16) (ci_ 10)),
  mv_ 0 17] [0, 3])))
def BaT : A3d := .seq (.ops [mv_ 18 3,
  mv_ 2 18] [2])
 (.ret)
def BaM : A3d := .seq (.block 0 (.loop [0, 3] BaP))
 BaT
def Bae : A3d := .seq (.ops [po_ 3 (.mov (.c (.string (str []))))] [0, 3])
 BaM
def Ba6 : A3d := .seq (.seq (.ops [mv_ 4 0,
  po_ 5 (.bin 3 .eql (.t 4) (ci_ 0))] [0, 5])
 (.cond (.t 5)
 (.seq (.ops [po_ 2 (.mov (.c (.string (str [48]))))] [2])
  (.ret))
 (.skip)))
 Bae
def BdL : A3d := .seq (.ops [po_ 2 (.mov (.c (.string (str []))))] [0])
 Ba6
def BdC : List VR := [.tmp 2]
theorem Bic : Tryz.f19.body.bind (trC Tryz.prog Tryz.f19.ntmps) = some (er BdL) := by kernel_rfl
theorem Bh1 : trR Tryz.prog Tryz.f19.results.toList = some BdC := by kernel_rfl
def BeF := A3a BaP.eq_1
def BeN := A3a BaT.eq_1
def BeO := A3a BaM.eq_1
def BdN := A3a Bae.eq_1
def Beq := A3a Ba6.eq_1
def BgV := A3a BdL.eq_1
theorem BgI {K : TV → Prop} {e : Env} {H : List Ob} : res BdC e H K = res [.tmp 2] e H K := A29 rfl
def A8p := (And.intro (And.intro (And.intro @BeF @BeN) (And.intro @BeO @BdN)) (And.intro (And.intro @Beq @BgV) @BgI))
def Bhm := A7f 19 Tryz.func19 Bic Bh1 rfl

end Go.Proofs.YtmlompedpahkjaaGreatDoor


namespace Go.Proofs.YtmlompedpahkjaaGreatDoor
open Go.RowKit
variable [A4e]
set_option linter.unusedSectionVars false
set_option linter.unusedVariables false
set_option linter.unusedSimpArgs false

theorem A9T : ∀ q : Nat, q < 100 → (bl A3A)[q * 2]? = some (UInt8.ofNat (48 + q / 10)) ∧ (bl A3A)[q * 2 + 1]? = some (UInt8.ofNat (48 + q % 10)) := by
 have h : ((List.range 100).all fun q => decide ((bl A3A)[q * 2]? = some (UInt8.ofNat (48 + q / 10)) ∧ (bl A3A)[q * 2 + 1]? = some (UInt8.ofNat (48 + q % 10)))) = true := by kernel_rfl
 intro q hq
 have := List.all_eq_true.1 h q (List.mem_range.2 hq)
 simpa using this
theorem BxY {x : Nat} (h : x < 100000000) : x % 10000 % 100 < 100 ∧ x % 10000 / 100 < 100 ∧ x / 10000 % 100 < 100 ∧ x / 10000 / 100 < 100 := by omega
theorem BvR (m : Nat) : m + 8 - 1 = m + 7 ∧ m + 8 - 2 = m + 6 ∧ m + 8 - 3 = m + 5 ∧ m + 8 - 4 = m + 4 ∧ m + 8 - 5 = m + 3 ∧ m + 8 - 6 = m + 2 ∧ m + 8 - 7 = m + 1 ∧ m + 8 - 8 = m := by omega
theorem BBw (x : Nat) : dgs 8 x = [UInt8.ofNat (48 + x / 10000 / 100 % 100 / 10), UInt8.ofNat (48 + x / 10000 / 100 % 100 % 10), UInt8.ofNat (48 + x / 10000 % 100 / 10), UInt8.ofNat (48 + x / 10000 % 100 % 10), UInt8.ofNat (48 + x % 10000 / 100 / 10), UInt8.ofNat (48 + x % 10000 / 100 % 10), UInt8.ofNat (48 + x % 10000 % 100 / 10), UInt8.ofNat (48 + x % 10000 % 100 % 10)] := by
 rw [show 8 = 2 + 6 from rfl, Bcl 6 2, show 6 = 2 + 4 from rfl, Bcl 4 2, show 4 = 2 + 2 from rfl, Bcl 2 2, BcL, BcL, BcL, BcL]
 simp only [Nat.reducePow, List.cons_append, List.nil_append]
 rw [show x / 10000 % 100 = x / 10000 % 100 from rfl, show x / 1000000 = x / 10000 / 100 by omega, show x / 100 % 100 = x % 10000 / 100 by omega, show x % 100 = x % 10000 % 100 by omega]
set_option maxHeartbeats 1000000 in
theorem Bv1 {x m' nd : Nat} (hxl : x < 100000000) (hm : m' + 8 ≤ nd) (hn24 : nd ≤ 24) {P' : List UInt8} (hP' : P'.length = m' + 8) {R : List TV} {id v cp N : Nat} {H : List Ob} (hid : id < H.length) {y : TV} {Q : VEx → Env → List Ob → Prop}
  (hQ : ∀ P4 : List UInt8, P4.length = m' → Q .nor [(0, .os 1 id v [] 0 nd cp), (1, y), (4, i64 (m' : Int))] (H.set id (.obj v (.arr N 1 (P4.map by8 ++ ((dgs 8 x).map by8 ++ R)))))) :
  vwp Tryz.prog A39 Q [(0, .os 1 id v [] 0 nd cp), (1, y), (4, i64 ((m' + 8 : Nat) : Int)), (5, .val (.int .u32 (x : Int)))] (H.set id (.obj v (.arr N 1 (P'.map by8 ++ R)))) := by
 have hat : ∀ o, (H.set id o)[id]? = some o := fun o => List.getElem?_set_self hid
 obtain ⟨P4, p0, p1, p2, p3, p4, p5, p6, p7, rfl, l4⟩ : ∃ P4 p0 p1 p2 p3 p4 p5 p6 p7, P' = P4 ++ [p0, p1, p2, p3, p4, p5, p6, p7] ∧ P4.length = m' := by
  have h1 : P' = P'.take m' ++ P'.drop m' := (List.take_append_drop m' P').symm
  have h2 : (P'.drop m').length = 8 := by simp [hP']
  match hD : P'.drop m', h2 with
  | [p0, p1, p2, p3, p4, p5, p6, p7], _ => exact ⟨P'.take m', p0, p1, p2, p3, p4, p5, p6, p7, by rw [← hD]; exact h1, by simp [hP']⟩
 have l5 : (P4.map by8).length = m' := by simp [l4]
 have gA : ∀ (j : Nat) (L : List TV), (P4.map by8 ++ L)[m' + j]? = L[j]? := fun j L => by rw [List.getElem?_append_right (by omega), l5, Nat.add_sub_cancel_left]
 have gA0 : ∀ (L : List TV), (P4.map by8 ++ L)[m']? = L[0]? := fun L => gA 0 L
 have sA : ∀ (j : Nat) (L : List TV) c, (P4.map by8 ++ L).set (m' + j) c = P4.map by8 ++ L.set j c := fun j L c => by rw [List.set_append_right _ _ (by omega), l5, Nat.add_sub_cancel_left]
 have sA0 : ∀ (L : List TV) c, (P4.map by8 ++ L).set m' c = P4.map by8 ++ L.set 0 c := fun L c => sA 0 L c
 rw [List.map_append, List.append_assoc]
 obtain ⟨n1, n2, n3, n4, n5, n6, n7, n8⟩ := BvR m'
 obtain ⟨q1, q2, q3, q4⟩ := BxY hxl
 obtain ⟨a1, b1⟩ := A9T (x % 10000 % 100) q1
 obtain ⟨a2, b2⟩ := A9T (x % 10000 / 100) q2
 obtain ⟨a3, b3⟩ := A9T (x / 10000 % 100) q3
 obtain ⟨a4, b4⟩ := A9T (x / 10000 / 100) q4
 have hQ4 := hQ P4 l4
 rw [BBw, Nat.mod_eq_of_lt q4] at hQ4
 clear hQ
 simp -dsimp (disch := first | assumption | omega | (simp only [A3b]; done) | (simp only [A3b]; omega)) only [↓A3g, A3c, A3e, A3f, eq_self, forall_const, Nat.reduceLT, Nat.reduceEqDiff, Nat.reduceSub, Nat.reduceMul, Nat.reduceMod, Nat.reduceDiv, Nat.reducePow, UInt8.reduceToNat, Int.reduceEq, Int.reduceLT, Int.reduceLE, ↓reduceIte, Nat.reduceAdd, Int.reduceToNat, reduceCtorEq, Nat.reduceLeDiff, ↓A6u, Bi6, BjF, ↓A6v, ↓A6y]
 generalize x % 10000 % 100 = z1 at *
 generalize x % 10000 / 100 = z2 at *
 generalize x / 10000 % 100 = z3 at *
 generalize x / 10000 / 100 = z4 at *
 simp -dsimp (disch := first | assumption | omega | (simp only [A3b]; done) | (simp only [A3b]; omega)) only [↓A3g, A3c, A3e, A3f, eq_self, forall_const, Nat.reduceLT, Nat.reduceEqDiff, Nat.reduceSub, Nat.reduceMul, Nat.reduceMod, Nat.reduceDiv, Nat.reducePow, UInt8.reduceToNat, Int.reduceEq, Int.reduceLT, Int.reduceLE, ↓reduceIte, Nat.reduceAdd, Int.reduceToNat, reduceCtorEq, Nat.reduceLeDiff, ↓A6x, Bbn, a1, b1, hat, n1, n2, gA, gA0, sA, sA0]
 simp -dsimp (disch := first | assumption | omega | (simp only [A3b]; done) | (simp only [A3b]; omega)) only [↓A3g, A3c, A3e, A3f, eq_self, forall_const, Nat.reduceLT, Nat.reduceEqDiff, Nat.reduceSub, Nat.reduceMul, Nat.reduceMod, Nat.reduceDiv, Nat.reducePow, UInt8.reduceToNat, Int.reduceEq, Int.reduceLT, Int.reduceLE, ↓reduceIte, Nat.reduceAdd, Int.reduceToNat, reduceCtorEq, Nat.reduceLeDiff, ↓A6B, Bbn, a2, b2, hat, n3, n4, gA, gA0, sA, sA0]
 simp -dsimp (disch := first | assumption | omega | (simp only [A3b]; done) | (simp only [A3b]; omega)) only [↓A3g, A3c, A3e, A3f, eq_self, forall_const, Nat.reduceLT, Nat.reduceEqDiff, Nat.reduceSub, Nat.reduceMul, Nat.reduceMod, Nat.reduceDiv, Nat.reducePow, UInt8.reduceToNat, Int.reduceEq, Int.reduceLT, Int.reduceLE, ↓reduceIte, Nat.reduceAdd, Int.reduceToNat, reduceCtorEq, Nat.reduceLeDiff, ↓A6A, Bbn, a3, b3, hat, n5, n6, gA, gA0, sA, sA0]
 simp -dsimp (disch := first | assumption | omega | (simp only [A3b]; done) | (simp only [A3b]; omega)) only [↓A3g, A3c, A3e, A3f, eq_self, forall_const, Nat.reduceLT, Nat.reduceEqDiff, Nat.reduceSub, Nat.reduceMul, Nat.reduceMod, Nat.reduceDiv, Nat.reducePow, UInt8.reduceToNat, Int.reduceEq, Int.reduceLT, Int.reduceLE, ↓reduceIte, Nat.reduceAdd, Int.reduceToNat, reduceCtorEq, Nat.reduceLeDiff, ↓A6w, Bbn, a4, b4, hat, n7, n8, gA, gA0, sA, sA0]
 exact hQ4
theorem BDg (x : Nat) : dgs 4 x = [UInt8.ofNat (48 + x % 10000 / 100 / 10), UInt8.ofNat (48 + x % 10000 / 100 % 10), UInt8.ofNat (48 + x % 10000 % 100 / 10), UInt8.ofNat (48 + x % 10000 % 100 % 10)] := by
 rw [show 4 = 2 + 2 from rfl, Bcl 2 2, BcL, BcL]
 simp only [Nat.reducePow, List.cons_append, List.nil_append]
 rw [show x / 100 % 100 = x % 10000 / 100 by omega, show x % 100 = x % 10000 % 100 by omega]
theorem BBe {x : Nat} : x % 10000 % 100 < 100 ∧ x % 10000 / 100 < 100 ∧ x % 100 < 100 := by omega
theorem Bxh (m : Nat) : m + 4 - 1 = m + 3 ∧ m + 4 - 2 = m + 2 ∧ m + 4 - 3 = m + 1 ∧ m + 4 - 4 = m := by omega
set_option maxHeartbeats 1000000 in
theorem Bue {x m nd : Nat} (hx : x < 10 ^ m) (hm4 : m < 4) (hm : m ≤ nd) (hn24 : nd ≤ 24) {P' : List UInt8} (hP' : P'.length = m) {R : List TV} {id v cp N : Nat} {H : List Ob} (hid : id < H.length) {K : TV → List Ob → Prop}
  (hQ : K (.tup []) (H.set id (.obj v (.arr N 1 ((dgs m x).map by8 ++ R))))) :
  vwp Tryz.prog A34 (Bjj A3W K) [(0, .os 1 id v [] 0 nd cp), (4, i64 (m : Int)), (12, .val (.int .u32 (x : Int)))] (H.set id (.obj v (.arr N 1 (P'.map by8 ++ R)))) := by
 have hat : ∀ o, (H.set id o)[id]? = some o := fun o => List.getElem?_set_self hid
 have hw8 : ∀ n : Nat, n < 10 → TV.val (.int .u8 (IntKind.u8.wrap ((48 + n : Nat) : Int))) = by8 (UInt8.ofNat (48 + n)) := fun n hn => by
  show TV.val (.int .u8 (IntKind.u8.wrap ((48 + n : Nat) : Int))) = .val (.int .u8 ((UInt8.ofNat (48 + n)).toNat : Int))
  rw [Bug]
 match m, P', hP' with
 | 0, [], _ =>
  simp -dsimp (disch := first | assumption | omega | (simp only [A3b]; done) | (simp only [A3b]; omega)) only [↓A3g, A3c, A3e, A3f, eq_self, forall_const, Nat.reduceLT, Nat.reduceEqDiff, Nat.reduceSub, Nat.reduceMul, Nat.reduceMod, Nat.reduceDiv, Nat.reducePow, UInt8.reduceToNat, Int.reduceEq, Int.reduceLT, Int.reduceLE, ↓reduceIte, Nat.reduceAdd, Int.reduceToNat, reduceCtorEq, Nat.reduceLeDiff, ↓A3B, ↓A3C, ↓A3T]
  exact hQ
 | 1, [p0], _ =>
  have hx1 : x < 10 := by simpa using hx
  have hw := hw8 x hx1
  rw [BlI, Nat.mod_eq_of_lt hx1] at hQ
  simp -dsimp (disch := first | assumption | omega | (simp only [A3b]; done) | (simp only [A3b]; omega)) only [↓A3g, A3c, A3e, A3f, eq_self, forall_const, Nat.reduceLT, Nat.reduceEqDiff, Nat.reduceSub, Nat.reduceMul, Nat.reduceMod, Nat.reduceDiv, Nat.reducePow, UInt8.reduceToNat, Int.reduceEq, Int.reduceLT, Int.reduceLE, ↓reduceIte, Nat.reduceAdd, Int.reduceToNat, reduceCtorEq, Nat.reduceLeDiff, ↓A3B, ↓A3C, ↓A3T, Bbn, hat]
  exact hQ
 | 2, [p0, p1], _ =>
  have hx1 : x < 100 := by simpa using hx
  obtain ⟨a1, b1⟩ := A9T x hx1
  rw [BcL, Nat.mod_eq_of_lt hx1] at hQ
  have hxm : x % 100 = x := Nat.mod_eq_of_lt hx1
  simp -dsimp (disch := first | assumption | omega | (simp only [A3b]; done) | (simp only [A3b]; omega)) only [↓A3g, A3c, A3e, A3f, eq_self, forall_const, Nat.reduceLT, Nat.reduceEqDiff, Nat.reduceSub, Nat.reduceMul, Nat.reduceMod, Nat.reduceDiv, Nat.reducePow, UInt8.reduceToNat, Int.reduceEq, Int.reduceLT, Int.reduceLE, ↓reduceIte, Nat.reduceAdd, Int.reduceToNat, reduceCtorEq, Nat.reduceLeDiff, ↓A3B, ↓A3C, ↓A4q, BjF, Bi6, hxm, ↓A4o, ↓A4r, ↓A3T, Bbn, hat, a1, b1]
  exact hQ
 | 3, [p0, p1, p2], _ =>
  have hx1 : x < 1000 := by simpa using hx
  have hx2 : x / 100 < 10 := by omega
  have hx3 : x % 100 < 100 := by omega
  obtain ⟨a1, b1⟩ := A9T (x % 100) hx3
  have hw := hw8 (x / 100) hx2
  rw [show 3 = 1 + 2 from rfl, Bcl 2 1, BcL, BlI] at hQ
  rw [show x / 10 ^ 2 % 10 = x / 100 by omega] at hQ
  simp -dsimp (disch := first | assumption | omega | (simp only [A3b]; done) | (simp only [A3b]; omega)) only [↓A3g, A3c, A3e, A3f, eq_self, forall_const, Nat.reduceLT, Nat.reduceEqDiff, Nat.reduceSub, Nat.reduceMul, Nat.reduceMod, Nat.reduceDiv, Nat.reducePow, UInt8.reduceToNat, Int.reduceEq, Int.reduceLT, Int.reduceLE, ↓reduceIte, Nat.reduceAdd, Int.reduceToNat, reduceCtorEq, Nat.reduceLeDiff, ↓A3B, ↓A3C, ↓A4q, BjF, Bi6, ↓A4o]
  generalize x % 100 = z at *
  generalize x / 100 = z2 at *
  simp -dsimp (disch := first | assumption | omega | (simp only [A3b]; done) | (simp only [A3b]; omega)) only [↓A3g, A3c, A3e, A3f, eq_self, forall_const, Nat.reduceLT, Nat.reduceEqDiff, Nat.reduceSub, Nat.reduceMul, Nat.reduceMod, Nat.reduceDiv, Nat.reducePow, UInt8.reduceToNat, Int.reduceEq, Int.reduceLT, Int.reduceLE, ↓reduceIte, Nat.reduceAdd, Int.reduceToNat, reduceCtorEq, Nat.reduceLeDiff, ↓A4r, ↓A3T, Bbn, hat, a1, b1]
  exact hQ
set_option maxHeartbeats 1000000 in
theorem ByU {x m nd : Nat} (hx : x < 10 ^ m) (hm8 : m < 8) (hx8 : x < 100000000) (hm : m ≤ nd) (hn24 : nd ≤ 24) {P' : List UInt8} (hP' : P'.length = m) {R : List TV} {id v cp N : Nat} {H : List Ob} (hid : id < H.length) {K : TV → List Ob → Prop}
  (hQ : K (.tup []) (H.set id (.obj v (.arr N 1 ((dgs m x).map by8 ++ R))))) :
  vwp Tryz.prog A35 (Bjj A3W K) [(0, .os 1 id v [] 0 nd cp), (4, i64 (m : Int)), (12, .val (.int .u32 (x : Int)))] (H.set id (.obj v (.arr N 1 (P'.map by8 ++ R)))) := by
 have hat : ∀ o, (H.set id o)[id]? = some o := fun o => List.getElem?_set_self hid
 by_cases c : 4 ≤ m
 ·obtain ⟨m', rfl⟩ : ∃ m', m = m' + 4 := ⟨m - 4, by omega⟩
  obtain ⟨P4, p0, p1, p2, p3, rfl, l4⟩ : ∃ P4 p0 p1 p2 p3, P' = P4 ++ [p0, p1, p2, p3] ∧ P4.length = m' := by
   have h1 : P' = P'.take m' ++ P'.drop m' := (List.take_append_drop m' P').symm
   have h2 : (P'.drop m').length = 4 := by simp [hP']
   match hD : P'.drop m', h2 with
   | [p0, p1, p2, p3], _ => exact ⟨P'.take m', p0, p1, p2, p3, by rw [← hD]; exact h1, by simp [hP']⟩
  have l5 : (P4.map by8).length = m' := by simp [l4]
  have gA : ∀ (j : Nat) (L : List TV), (P4.map by8 ++ L)[m' + j]? = L[j]? := fun j L => by rw [List.getElem?_append_right (by omega), l5, Nat.add_sub_cancel_left]
  have gA0 : ∀ (L : List TV), (P4.map by8 ++ L)[m']? = L[0]? := fun L => gA 0 L
  have sA : ∀ (j : Nat) (L : List TV) c, (P4.map by8 ++ L).set (m' + j) c = P4.map by8 ++ L.set j c := fun j L c => by rw [List.set_append_right _ _ (by omega), l5, Nat.add_sub_cancel_left]
  have sA0 : ∀ (L : List TV) c, (P4.map by8 ++ L).set m' c = P4.map by8 ++ L.set 0 c := fun L c => sA 0 L c
  rw [List.map_append, List.append_assoc]
  have hx4 : x / 10000 < 10 ^ m' := by rw [Nat.pow_add] at hx; omega
  rw [show m' + 4 = m' + 4 from rfl, Bcl 4 m', show (10 : Nat) ^ 4 = 10000 from rfl, BDg, List.map_append, List.append_assoc] at hQ
  clear hx
  obtain ⟨n1, n2, n3, n4⟩ := Bxh m'
  obtain ⟨q1, q2, _⟩ := BBe (x := x)
  obtain ⟨a1, b1⟩ := A9T (x % 10000 % 100) q1
  obtain ⟨a2, b2⟩ := A9T (x % 10000 / 100) q2
  have fin := Bue (R := [by8 (UInt8.ofNat (48 + x % 10000 / 100 / 10)), by8 (UInt8.ofNat (48 + x % 10000 / 100 % 10)), by8 (UInt8.ofNat (48 + x % 10000 % 100 / 10)), by8 (UInt8.ofNat (48 + x % 10000 % 100 % 10))] ++ R) (cp := cp) hx4 (by omega) (nd := nd) (by omega) hn24 l4 hid (K := K) hQ
  clear hQ hx4
  simp -dsimp (disch := first | assumption | omega | (simp only [A3b]; done) | (simp only [A3b]; omega)) only [↓A3g, A3c, A3e, A3f, eq_self, forall_const, Nat.reduceLT, Nat.reduceEqDiff, Nat.reduceSub, Nat.reduceMul, Nat.reduceMod, Nat.reduceDiv, Nat.reducePow, UInt8.reduceToNat, Int.reduceEq, Int.reduceLT, Int.reduceLE, ↓reduceIte, Nat.reduceAdd, Int.reduceToNat, reduceCtorEq, Nat.reduceLeDiff, ↓A4l, ↓A4m, ↓A6m, ↓A6p, Bi6, BjF, ↓A6j]
  generalize x % 10000 % 100 = z1 at *
  generalize x % 10000 / 100 = z2 at *
  simp -dsimp (disch := first | assumption | omega | (simp only [A3b]; done) | (simp only [A3b]; omega)) only [↓A3g, A3c, A3e, A3f, eq_self, forall_const, Nat.reduceLT, Nat.reduceEqDiff, Nat.reduceSub, Nat.reduceMul, Nat.reduceMod, Nat.reduceDiv, Nat.reducePow, UInt8.reduceToNat, Int.reduceEq, Int.reduceLT, Int.reduceLE, ↓reduceIte, Nat.reduceAdd, Int.reduceToNat, reduceCtorEq, Nat.reduceLeDiff, ↓A6r, Bbn, a1, b1, hat, n1, n2, gA, gA0, sA, sA0]
  simp -dsimp (disch := first | assumption | omega | (simp only [A3b]; done) | (simp only [A3b]; omega)) only [↓A3g, A3c, A3e, A3f, eq_self, forall_const, Nat.reduceLT, Nat.reduceEqDiff, Nat.reduceSub, Nat.reduceMul, Nat.reduceMod, Nat.reduceDiv, Nat.reducePow, UInt8.reduceToNat, Int.reduceEq, Int.reduceLT, Int.reduceLE, ↓reduceIte, Nat.reduceAdd, Int.reduceToNat, reduceCtorEq, Nat.reduceLeDiff, ↓A6l, Bbn, a2, b2, hat, n3, n4, gA, gA0, sA, sA0]
  exact fin
 ·have fin := Bue (R := R) (cp := cp) hx (by omega) hm hn24 hP' hid hQ
  clear hx hx8 hQ
  simp -dsimp (disch := first | assumption | omega | (simp only [A3b]; done) | (simp only [A3b]; omega)) only [↓A3g, A3c, A3e, A3f, eq_self, forall_const, Nat.reduceLT, Nat.reduceEqDiff, Nat.reduceSub, Nat.reduceMul, Nat.reduceMod, Nat.reduceDiv, Nat.reducePow, UInt8.reduceToNat, Int.reduceEq, Int.reduceLT, Int.reduceLE, ↓reduceIte, Nat.reduceAdd, Int.reduceToNat, reduceCtorEq, Nat.reduceLeDiff, ↓A4l, ↓A4m]
  exact fin
theorem Bxz : ∀ {nd : Nat} {u : Nat} (hu : u < 10 ^ nd) (hnd : 1 ≤ nd) (hn24 : nd ≤ 24) (hu2 : u < 18446744073709551616) {P : List UInt8} {Q : List TV} (hP : P.length = nd) {id v cp N : Nat} {H : List Ob} (ho : H[id]? = some (.obj v (.arr N 1 (P.map by8 ++ Q)))) {K : TV → List Ob → Prop}
  (hK : K (.tup []) (H.set id (.obj v (.arr N 1 ((dgs nd u).map by8 ++ Q))))), A3p Tryz.prog 48 [.os 1 id v [] 0 nd cp, .val (.int .u64 (u : Int))] H K := by
 intro nd u hu hnd hn24 hu2 P Q hP id v cp N H ho K hK
 refine A7U (by simp) ?_
 have hid : id < H.length := (List.getElem?_eq_some_iff.1 ho).1
 have hsame : ∀ o, H[id]? = some o → H.set id o = H := fun o h => by
  apply List.ext_getElem?
  intro j
  rw [List.getElem?_set]
  split
  ·rename_i e; subst e; simp [h]
  ·rfl
 simp -dsimp (disch := first | assumption | omega | (simp only [A3b]; done) | (simp only [A3b]; omega)) only [↓A3g, A3c, A3e, A3f, eq_self, forall_const, Nat.reduceLT, Nat.reduceEqDiff, Nat.reduceSub, Nat.reduceMul, Nat.reduceMod, Nat.reduceDiv, Nat.reducePow, UInt8.reduceToNat, Int.reduceEq, Int.reduceLT, Int.reduceLE, ↓reduceIte, Nat.reduceAdd, Int.reduceToNat, reduceCtorEq, Nat.reduceLeDiff, ↓A7P, ↓A6k]
 refine Bgt (fun q e H' => ∃ (m u' : Nat) (P' S : List UInt8), q = m ∧ m ≤ nd ∧ u' < 10 ^ m ∧ u' < 18446744073709551616 ∧ P'.length = m ∧ dgs nd u = dgs m u' ++ S ∧ H' = H.set id (.obj v (.arr N 1 (P'.map by8 ++ (S.map by8 ++ Q)))) ∧ e = [(0, .os 1 id v [] 0 nd cp), (1, .val (.int .u64 (u' : Int))), (4, i64 (m : Int))]) nd ?_ ?_
 ·refine ⟨nd, u, P, [], rfl, Nat.le_refl _, hu, hu2, hP, by simp, ?_, by simp [forget, get]⟩
  rw [List.map_nil, List.nil_append]
  exact (hsame _ ho).symm
 ·rintro q e H' ⟨m, u', P', S, rfl, hm, hu', hu2', hP', hS, rfl, rfl⟩
  have hat : ∀ o, (H.set id o)[id]? = some o := fun o => List.getElem?_set_self hid
  by_cases c : 8 ≤ q
  ·obtain ⟨m', rfl⟩ : ∃ m', q = m' + 8 := ⟨q - 8, by omega⟩
   obtain ⟨x, hx⟩ : ∃ x, x = u' % 100000000 := ⟨_, rfl⟩
   have hxl : x < 100000000 := by omega
   have hw : IntKind.u32.wrap (x : Int) = (x : Int) := BkE (by omega)
   simp -dsimp (disch := first | assumption | omega | (simp only [A3b]; done) | (simp only [A3b]; omega)) only [↓A3g, A3c, A3e, A3f, eq_self, forall_const, Nat.reduceLT, Nat.reduceEqDiff, Nat.reduceSub, Nat.reduceMul, Nat.reduceMod, Nat.reduceDiv, Nat.reducePow, UInt8.reduceToNat, Int.reduceEq, Int.reduceLT, Int.reduceLE, ↓reduceIte, Nat.reduceAdd, Int.reduceToNat, reduceCtorEq, Nat.reduceLeDiff, ↓A4n, ↓A6F, ↓A6I, BrR]
   rw [← hx, hw]
   have hu8 : u' / 100000000 < 10 ^ m' := by rw [Nat.pow_add] at hu'; omega
   have hd8 : dgs (m' + 8) u' = dgs m' (u' / 100000000) ++ dgs 8 x := by
    rw [Bcl 8 m', BBw, BBw, show (10 : Nat) ^ 8 = 100000000 from rfl]
    congr 1
    rw [show x / 10000 / 100 % 100 = u' / 10000 / 100 % 100 by omega, show x / 10000 % 100 = u' / 10000 % 100 by omega, show x % 10000 = u' % 10000 by omega]
   refine Bv1 (R := S.map by8 ++ Q) hxl hm hn24 hP' hid fun P4 hP4 => ?_
   simp -dsimp (disch := first | assumption | omega | (simp only [A3b]; done) | (simp only [A3b]; omega)) only [↓A3g, A3c, A3e, A3f, eq_self, forall_const, Nat.reduceLT, Nat.reduceEqDiff, Nat.reduceSub, Nat.reduceMul, Nat.reduceMod, Nat.reduceDiv, Nat.reducePow, UInt8.reduceToNat, Int.reduceEq, Int.reduceLT, Int.reduceLE, ↓reduceIte, Nat.reduceAdd, Int.reduceToNat, reduceCtorEq, Nat.reduceLeDiff]
   refine A6g m' (by omega) (by simp) ⟨m', u' / 100000000, P4, dgs 8 x ++ S, rfl, by omega, hu8, by omega, hP4, by rw [hS, hd8, List.append_assoc], by rw [List.map_append, List.append_assoc], by simp [forget, get]⟩
  ·have hu8 : u' < 100000000 := Nat.lt_of_lt_of_le hu' (Nat.le_trans (Nat.pow_le_pow_right (by omega) (show q ≤ 8 by omega)) (by decide))
   have hw : IntKind.u32.wrap (u' : Int) = (u' : Int) := BkE (by omega)
   rw [hS, List.map_append, List.append_assoc] at hK
   have fin := ByU (R := S.map by8 ++ Q) (cp := cp) hu' (by omega) hu8 hm hn24 hP' hid hK
   clear hK hu hu'
   simp -dsimp (disch := first | assumption | omega | (simp only [A3b]; done) | (simp only [A3b]; omega)) only [↓A3g, A3c, A3e, A3f, eq_self, forall_const, Nat.reduceLT, Nat.reduceEqDiff, Nat.reduceSub, Nat.reduceMul, Nat.reduceMod, Nat.reduceDiv, Nat.reducePow, UInt8.reduceToNat, Int.reduceEq, Int.reduceLT, Int.reduceLE, ↓reduceIte, Nat.reduceAdd, Int.reduceToNat, reduceCtorEq, Nat.reduceLeDiff, ↓A4n, ↓A6q, hw]
   exact fin
end Go.Proofs.YtmlompedpahkjaaGreatDoor


namespace Go.Proofs
open Go.Shelf
def Tryz.lays283_ren : Go.Shelf.Ren := ⟨fun | 283 => 46 | n => n, fun | 3 => 3 | 9 => 9 | 4 => 4 | n => n, fun | n => n⟩
theorem Tryz.lays283 : Go.Proofs.Lays.n283 Tryz.prog Tryz.lays283_ren := {
 mixed := by kernel_rfl
 f283 := Tryz.func46.trans (congrArg some (by kernel_rfl))
 t3 := Tryz.underlying3
 a3 := Tryz.isAgg3
 z3 := Tryz.sizeOf3
 v3 := Tryz.zeroValue3
 t4 := Tryz.underlying4
 a4 := Tryz.isAgg4
 z4 := Tryz.sizeOf4
 v4 := Tryz.zeroValue4
 t9 := Tryz.underlying9
 a9 := Tryz.isAgg9
 z9 := Tryz.sizeOf9
 v9 := Tryz.zeroValue9 }
open Go.Lib in
/-- internal/strconv.small: "small returns the string for an i with 0 <= i < nSmalls.": i's decimal numeral. The world is aS it was. (LAID: no walk: one application.) -/
theorem Tryz.internal_strconv_small (i : Nat) (h : i < 100) (w : World) :
  Calls Tryz.prog 46 #[.int .i64 i] w fun e w' => e = .returned (.string ⟨(Lib.decDigits i).toArray⟩) ∧ w' = w := Any.internal_strconv_small Tryz.lays283 i h w
def Tryz.laysM284_ren : Go.Shelf.Ren := ⟨fun | 284 => 47 | 129 => 61 | 317 => 60 | 318 => 62 | n => n, fun | 53 => 77 | 3 => 3 | 212 => 126 | 0 => 0 | 4 => 4 | 46 => 116 | 5 => 5 | 9 => 9 | n => n, fun | 17 => 3 | n => n⟩
theorem Tryz.laysM284 : Go.Proofs.LaysM.n284 Tryz.prog Tryz.laysM284_ren := {
 mixed := by kernel_rfl
 f129 := Tryz.func61.trans (congrArg some (by kernel_rfl))
 f284 := Tryz.func47.trans (congrArg some (by kernel_rfl))
 f317 := Tryz.func60.trans (congrArg some (by kernel_rfl))
 f318 := Tryz.func62.trans (congrArg some (by kernel_rfl))
 t0 := Tryz.underlying0
 a0 := Tryz.isAgg0
 z0 := Tryz.sizeOf0
 v0 := Tryz.zeroValue0
 t3 := Tryz.underlying3
 a3 := Tryz.isAgg3
 z3 := Tryz.sizeOf3
 v3 := Tryz.zeroValue3
 t4 := Tryz.underlying4
 a4 := Tryz.isAgg4
 z4 := Tryz.sizeOf4
 v4 := Tryz.zeroValue4
 t5 := Tryz.underlying5
 a5 := Tryz.isAgg5
 z5 := Tryz.sizeOf5
 v5 := Tryz.zeroValue5
 t9 := Tryz.underlying9
 a9 := Tryz.isAgg9
 z9 := Tryz.sizeOf9
 v9 := Tryz.zeroValue9
 t46 := Tryz.underlying116
 a46 := Tryz.isAgg116
 z46 := Tryz.sizeOf116
 v46 := Tryz.zeroValue116
 t53 := Tryz.underlying77
 a53 := Tryz.isAgg77
 z53 := Tryz.sizeOf77
 v53 := Tryz.zeroValue77
 t212 := Tryz.underlying126
 a212 := Tryz.isAgg126
 z212 := Tryz.sizeOf126
 v212 := Tryz.zeroValue126
 g17 := by kernel_rfl
 i0 := by kernel_rfl
 i3 := by kernel_rfl
 i4 := by kernel_rfl
 i5 := by kernel_rfl
 i9 := by kernel_rfl
 i46 := by kernel_rfl
 i53 := by kernel_rfl
 i212 := by kernel_rfl
 m17 := by kernel_rfl }
open Go.Lib in
/-- internal/strconv.numDigits, at a d that is not 0: THE NUMBER OF d's DECIMAL DIGITS. The world is aS it was. (LAID: no walk: one application.) -/
theorem Tryz.internal_strconv_numDigits (u : Nat) (h1 : 1 ≤ u) (h2 : u < 18446744073709551616) (w : World) (htab : Lib.TabIs Tryz.prog w "internal/strconv.uint64pow10" .u64 Lib.pow10Tab) :
  Calls Tryz.prog 47 #[.int .u64 u] w fun e w' => e = .returned (.int .i64 (Lib.nDigits u)) ∧ w' = w := Any.internal_strconv_numDigits Tryz.laysM284 u h1 h2 w htab
def Tryz.laysC245_ren : Go.Shelf.Ren := ⟨fun | 245 => 58 | 279 => 73 | 280 => 74 | 281 => 75 | 282 => 76 | 316 => 79 | 171 => 81 | 205 => 80 | 243 => 82 | 246 => 83 | 283 => 46 | 284 => 47 | 285 => 48 | 286 => 49 | 129 => 61 | 317 => 60 | 318 => 62 | 319 => 63 | 320 => 64 | 337 => 77 | 338 => 78 | n => n, fun | 9 => 9 | 3 => 3 | 75 => 28 | 167 => 132 | 4 => 4 | 168 => 135 | 210 => 141 | 37 => 23 | 0 => 0 | 127 => 145 | 145 => 148 | 143 => 146 | 2 => 2 | 171 => 111 | 53 => 77 | 5 => 5 | 173 => 114 | 212 => 126 | 51 => 78 | 20 => 20 | 213 => 127 | 46 => 116 | 232 => 143 | 233 => 144 | 80 => 150 | n => n, fun | 15 => 4 | 16 => 5 | 17 => 3 | 18 => 6 | 19 => 7 | n => n⟩
theorem Tryz.laysC245 : Go.Proofs.LaysC.n245 Tryz.prog Tryz.laysC245_ren := {
 mixed := by kernel_rfl
 f129 := Tryz.func61.trans (congrArg some (by kernel_rfl))
 f171 := Tryz.func81.trans (congrArg some (by kernel_rfl))
 f205 := Tryz.func80.trans (congrArg some (by kernel_rfl))
 f243 := Tryz.func82.trans (congrArg some (by kernel_rfl))
 f245 := Tryz.func58.trans (congrArg some (by kernel_rfl))
 f246 := Tryz.func83.trans (congrArg some (by kernel_rfl))
 f279 := Tryz.func73.trans (congrArg some (by kernel_rfl))
 f280 := Tryz.func74.trans (congrArg some (by kernel_rfl))
 f281 := Tryz.func75.trans (congrArg some (by kernel_rfl))
 f282 := Tryz.func76.trans (congrArg some (by kernel_rfl))
 f283 := Tryz.func46.trans (congrArg some (by kernel_rfl))
 f284 := Tryz.func47.trans (congrArg some (by kernel_rfl))
 f285 := Tryz.func48.trans (congrArg some (by kernel_rfl))
 f286 := Tryz.func49.trans (congrArg some (by kernel_rfl))
 f316 := Tryz.func79.trans (congrArg some (by kernel_rfl))
 f317 := Tryz.func60.trans (congrArg some (by kernel_rfl))
 f318 := Tryz.func62.trans (congrArg some (by kernel_rfl))
 f319 := Tryz.func63.trans (congrArg some (by kernel_rfl))
 f320 := Tryz.func64.trans (congrArg some (by kernel_rfl))
 f337 := Tryz.func77.trans (congrArg some (by kernel_rfl))
 f338 := Tryz.func78.trans (congrArg some (by kernel_rfl))
 t0 := Tryz.underlying0
 a0 := Tryz.isAgg0
 z0 := Tryz.sizeOf0
 v0 := Tryz.zeroValue0
 t2 := Tryz.underlying2
 a2 := Tryz.isAgg2
 z2 := Tryz.sizeOf2
 v2 := Tryz.zeroValue2
 t3 := Tryz.underlying3
 a3 := Tryz.isAgg3
 z3 := Tryz.sizeOf3
 v3 := Tryz.zeroValue3
 t4 := Tryz.underlying4
 a4 := Tryz.isAgg4
 z4 := Tryz.sizeOf4
 v4 := Tryz.zeroValue4
 t5 := Tryz.underlying5
 a5 := Tryz.isAgg5
 z5 := Tryz.sizeOf5
 v5 := Tryz.zeroValue5
 t9 := Tryz.underlying9
 a9 := Tryz.isAgg9
 z9 := Tryz.sizeOf9
 v9 := Tryz.zeroValue9
 t20 := Tryz.underlying20
 a20 := Tryz.isAgg20
 z20 := Tryz.sizeOf20
 v20 := Tryz.zeroValue20
 t37 := Tryz.underlying23
 a37 := Tryz.isAgg23
 z37 := Tryz.sizeOf23
 v37 := Tryz.zeroValue23
 t46 := Tryz.underlying116
 a46 := Tryz.isAgg116
 z46 := Tryz.sizeOf116
 v46 := Tryz.zeroValue116
 t51 := Tryz.underlying78
 a51 := Tryz.isAgg78
 z51 := Tryz.sizeOf78
 v51 := Tryz.zeroValue78
 t53 := Tryz.underlying77
 a53 := Tryz.isAgg77
 z53 := Tryz.sizeOf77
 v53 := Tryz.zeroValue77
 t75 := Tryz.underlying28
 a75 := Tryz.isAgg28
 z75 := Tryz.sizeOf28
 v75 := Tryz.zeroValue28
 t127 := Tryz.underlying145
 a127 := Tryz.isAgg145
 z127 := Tryz.sizeOf145
 v127 := Tryz.zeroValue145
 t143 := Tryz.underlying146
 a143 := Tryz.isAgg146
 z143 := Tryz.sizeOf146
 v143 := Tryz.zeroValue146
 t145 := Tryz.underlying148
 a145 := Tryz.isAgg148
 z145 := Tryz.sizeOf148
 v145 := Tryz.zeroValue148
 t167 := Tryz.underlying132
 a167 := Tryz.isAgg132
 z167 := Tryz.sizeOf132
 v167 := Tryz.zeroValue132
 t168 := Tryz.underlying135
 a168 := Tryz.isAgg135
 z168 := Tryz.sizeOf135
 v168 := Tryz.zeroValue135
 t171 := Tryz.underlying111
 a171 := Tryz.isAgg111
 z171 := Tryz.sizeOf111
 v171 := Tryz.zeroValue111
 t173 := Tryz.underlying114
 a173 := Tryz.isAgg114
 z173 := Tryz.sizeOf114
 v173 := Tryz.zeroValue114
 t210 := Tryz.underlying141
 a210 := Tryz.isAgg141
 z210 := Tryz.sizeOf141
 v210 := Tryz.zeroValue141
 t212 := Tryz.underlying126
 a212 := Tryz.isAgg126
 z212 := Tryz.sizeOf126
 v212 := Tryz.zeroValue126
 t213 := Tryz.underlying127
 a213 := Tryz.isAgg127
 z213 := Tryz.sizeOf127
 t232 := Tryz.underlying143
 a232 := Tryz.isAgg143
 z232 := Tryz.sizeOf143
 v232 := Tryz.zeroValue143
 t233 := Tryz.underlying144
 a233 := Tryz.isAgg144
 z233 := Tryz.sizeOf144
 v233 := Tryz.zeroValue144
 g15 := by kernel_rfl
 g16 := by kernel_rfl
 g17 := by kernel_rfl
 g18 := by kernel_rfl
 g19 := by kernel_rfl
 t80 := Tryz.underlying150
 a80 := Tryz.isAgg150
 z80 := Tryz.sizeOf150
 v80 := Tryz.zeroValue150
 i0 := by kernel_rfl
 i2 := by kernel_rfl
 i3 := by kernel_rfl
 i4 := by kernel_rfl
 i5 := by kernel_rfl
 i9 := by kernel_rfl
 i20 := by kernel_rfl
 i37 := by kernel_rfl
 i46 := by kernel_rfl
 i51 := by kernel_rfl
 i53 := by kernel_rfl
 i75 := by kernel_rfl
 i80 := by kernel_rfl
 i127 := by kernel_rfl
 i143 := by kernel_rfl
 i145 := by kernel_rfl
 i167 := by kernel_rfl
 i168 := by kernel_rfl
 i171 := by kernel_rfl
 i173 := by kernel_rfl
 i210 := by kernel_rfl
 i212 := by kernel_rfl
 i232 := by kernel_rfl
 i233 := by kernel_rfl
 m15 := by kernel_rfl
 m16 := by kernel_rfl
 m17 := by kernel_rfl
 m18 := by kernel_rfl
 m19 := by kernel_rfl
 c0 := by kernel_rfl
 c2 := by kernel_rfl
 c3 := by kernel_rfl
 c4 := by kernel_rfl
 c5 := by kernel_rfl
 c9 := by kernel_rfl
 c20 := by kernel_rfl
 c37 := by kernel_rfl
 c46 := by kernel_rfl
 c51 := by kernel_rfl
 c53 := by kernel_rfl
 c75 := by kernel_rfl
 c80 := by kernel_rfl
 c127 := by kernel_rfl
 c143 := by kernel_rfl
 c145 := by kernel_rfl
 c167 := by kernel_rfl
 c168 := by kernel_rfl
 c171 := by kernel_rfl
 c173 := by kernel_rfl
 c210 := by kernel_rfl
 c212 := by kernel_rfl
 c213 := by kernel_rfl
 c232 := by kernel_rfl
 c233 := by kernel_rfl }
open Go.RowKit in
/-- strconv.toError, at the inner package's ErrSyntax: 'syntaxError(fn, s)' aS an error: A *NumError IN A NEW BLOCK. (LAID: no walk: one application.) -/
theorem Tryz.strconv_toError_syntax (fn s : ByteArray) (base bits : Int) (ev : Value) (w : World) (hlim : s.size ≤ 281474976710656) (hv : w.cell? ⟨4, 0, none⟩ = some ev) (hev : ev = .nilIface ∨ ∃ te pe, ev = .iface te pe) :
  Calls Tryz.prog 58 #[.string fn, .string s, .int .i64 base, .int .i64 bits, .iface 132 (.int .i64 2)] w fun e w' => ∃ N, e = .returned (.iface 135 (.pointer (some ⟨N, 0, none⟩))) ∧ w.heap.size ≤ N ∧ w'.heap[N]? = some (.cells #[.string fn, .string s, ev] 141 (0, 0)) ∧ Below w.heap.size w w' := Any.strconv_toError_syntax Tryz.laysC245 fn s base bits ev w hlim hv hev
open Go.RowKit in
/-- strconv.toError, at the inner package's ErrRange: 'rangeError(fn, s)' aS an error: A *NumError IN A NEW BLOCK. (LAID: no walk: one application.) -/
theorem Tryz.strconv_toError_range (fn s : ByteArray) (base bits : Int) (ev : Value) (w : World) (hlim : s.size ≤ 281474976710656) (hv : w.cell? ⟨5, 0, none⟩ = some ev) (hev : ev = .nilIface ∨ ∃ te pe, ev = .iface te pe) :
  Calls Tryz.prog 58 #[.string fn, .string s, .int .i64 base, .int .i64 bits, .iface 132 (.int .i64 1)] w fun e w' => ∃ N, e = .returned (.iface 135 (.pointer (some ⟨N, 0, none⟩))) ∧ w.heap.size ≤ N ∧ w'.heap[N]? = some (.cells #[.string fn, .string s, ev] 141 (0, 0)) ∧ Below w.heap.size w w' := Any.strconv_toError_range Tryz.laysC245 fn s base bits ev w hlim hv hev
end Go.Proofs


namespace Go.Proofs.YtmlompedpahkjaaGreatDoor
open Go.RowKit
variable [A4e]
set_option linter.unusedSectionVars false
set_option linter.unusedVariables false
set_option linter.unusedSimpArgs false

/-- A call on plain values that leaves all aS it was. -/
theorem A4p.ofSame {f : FuncId} {args : List Value} {r : Value} (h : ∀ (F : Nat → Prop) w, A8z F w → Calls Tryz.prog f args.toArray w fun e w' => e = .returned r ∧ w' = w) : A4p Tryz.prog f (args.map .val) (fun x => x = .val r) := by
 intro β F w vs hF hv
 have hvs : vs = args := by
  clear h hF
  induction args generalizing vs with
  | nil => rw [List.map_nil, A3V.nil] at hv; exact hv
  | cons a args ih =>
   rw [List.map_cons] at hv
   obtain ⟨v, us, rfl, h1, h2⟩ := A3V.cons.1 hv
   have := Rep.val.1 (Or.inl h1 : Rep _ _ _ _)
   rw [this, ih us h2]
 subst hvs
 refine (h F w hF.2).mono ?_
 rintro e w' ⟨rfl, rfl⟩
 exact ⟨_, _, F, rfl, rfl, Rep.of_val, ⟨rfl, rfl, rfl, Nat.le_refl _, fun _ _ => rfl, fun _ h => h, fun _ _ h => h, hF.1⟩⟩
theorem Bum (i : Nat) (hi : i < 100) : A4p Tryz.prog 46 [i64 (i : Int)] (fun x => x = ts (Lib.decDigits i)) :=
 A4p.ofSame (f := 46) (args := [.int .i64 (i : Int)]) (r := .string (str (Lib.decDigits i))) fun F w _ => Tryz.internal_strconv_small i hi w
variable [A3k]
theorem Bq5 {F : Nat → Prop} {w : World} (h : A8z F w) : Lib.TabIs Tryz.prog w "internal/strconv.uint64pow10" .u64 Lib.pow10Tab := by
 obtain ⟨_, t, fr, h1⟩ := h 3 _ A3k.k
 have h2 : Tryz.prog.globalNamed "internal/strconv.uint64pow10" = some 3 := by kernel_rfl
 have h3 : A3q.cells.toArray = (Lib.pow10Tab.map fun z => Value.int .u64 z).toArray := by kernel_rfl
 unfold Lib.TabIs World.var?
 rw [h2, Option.bind_some, h1, h3]
theorem BiQ (u : Nat) (h1 : 1 ≤ u) (h2 : u < 18446744073709551616) : A4p Tryz.prog 47 [.val (.int .u64 (u : Int))] (fun x => x = i64 (Lib.nDigits u : Int)) :=
 A4p.ofSame (f := 47) (args := [.int .u64 (u : Int)]) (r := .int .i64 (Lib.nDigits u : Int)) fun F w hg => Tryz.internal_strconv_numDigits u h1 h2 w (Bq5 hg)
theorem Bi2 (u : Nat) : (Lib.decDigits u).length = Lib.nDigits u := by rw [← Bl2, Bjx]
theorem BkC {n : Nat} (h : n ≤ 24) : (List.replicate 24 (TV.val (.int .u8 ((0 : Nat) : Int)))) = ((List.replicate n (0 : UInt8)).map by8) ++ List.replicate (24 - n) (.val (.int .u8 ((0 : Nat) : Int))) := by
 have e : (TV.val (.int .u8 ((0 : Nat) : Int))) = by8 0 := rfl
 rw [e, List.map_replicate, List.replicate_append_replicate, show n + (24 - n) = 24 by omega]
theorem Buw {l : List UInt8} : bl (str l) = l := by simp [bl, str]
/-- FormatUint at base 10. -/
theorem Bmh (u : Nat) (hu : u < 18446744073709551616) : A4p Tryz.prog 59 [.val (.int .u64 (u : Int)), i64 ((10 : Nat) : Int)] (fun x => x = ts (Lib.decDigits u)) := by
 refine A3p.toPureV (A8w (by simp) ?_)
 have hw : u ≤ 9223372036854775807 → IntKind.i64.wrap (u : Int) = (u : Int) := fun h => A5X (by omega) (by omega)
 by_cases c : u < 100
 ·have hw := hw (by omega)
  simp -dsimp (disch := first | assumption | omega | (simp only [A3b]; done) | (simp only [A3b]; omega)) only [↓A3g, A3c, A3e, A3f, eq_self, forall_const, Nat.reduceLT, Nat.reduceEqDiff, Nat.reduceSub, Nat.reduceMul, Nat.reduceMod, Nat.reduceDiv, Nat.reducePow, UInt8.reduceToNat, Int.reduceEq, Int.reduceLT, Int.reduceLE, ↓reduceIte, Nat.reduceAdd, Int.reduceToNat, reduceCtorEq, Nat.reduceLeDiff, ↓A3K, hw]
  refine (Bum u c).calls rfl fun r hr => ?_
  subst hr
  simp -dsimp (disch := first | assumption | omega | (simp only [A3b]; done) | (simp only [A3b]; omega)) only [↓A3g, A3c, A3e, A3f, eq_self, forall_const, Nat.reduceLT, Nat.reduceEqDiff, Nat.reduceSub, Nat.reduceMul, Nat.reduceMod, Nat.reduceDiv, Nat.reducePow, UInt8.reduceToNat, Int.reduceEq, Int.reduceLT, Int.reduceLE, ↓reduceIte, Nat.reduceAdd, Int.reduceToNat, reduceCtorEq, Nat.reduceLeDiff, ↓A3K]
 ·have hn := Lib.nDigits_le20 u hu
  have hp := Lib.nDigits_pos u
  have hlt := BiM u
  have hz := BkC (n := Lib.nDigits u) (by omega)
  simp only [List.replicate] at hz
  simp -dsimp (disch := first | assumption | omega | (simp only [A3b]; done) | (simp only [A3b]; omega)) only [↓A3g, A3c, A3e, A3f, eq_self, forall_const, Nat.reduceLT, Nat.reduceEqDiff, Nat.reduceSub, Nat.reduceMul, Nat.reduceMod, Nat.reduceDiv, Nat.reducePow, UInt8.reduceToNat, Int.reduceEq, Int.reduceLT, Int.reduceLE, ↓reduceIte, Nat.reduceAdd, Int.reduceToNat, reduceCtorEq, Nat.reduceLeDiff, ↓A3K]
  refine (BiQ u (by omega) hu).calls rfl fun r hr => ?_
  subst hr
  simp -dsimp (disch := first | assumption | omega | (simp only [A3b]; done) | (simp only [A3b]; omega)) only [↓A3g, A3c, A3e, A3f, eq_self, forall_const, Nat.reduceLT, Nat.reduceEqDiff, Nat.reduceSub, Nat.reduceMul, Nat.reduceMod, Nat.reduceDiv, Nat.reducePow, UInt8.reduceToNat, Int.reduceEq, Int.reduceLT, Int.reduceLE, ↓reduceIte, Nat.reduceAdd, Int.reduceToNat, reduceCtorEq, Nat.reduceLeDiff, ↓A3K]
  rw [hz]
  refine BgW (Bxz hlt hp (by omega) hu (by simp) rfl ?_)
  have hdl : (dgs (Lib.nDigits u) u).length = Lib.nDigits u := Bjx _ _
  have htk : ∀ R : List TV, ((dgs (Lib.nDigits u) u).map by8 ++ R).take (Lib.nDigits u) = (dgs (Lib.nDigits u) u).map by8 := fun R => List.take_left' (by simp [hdl])
  have hall : ∀ y ∈ (dgs (Lib.nDigits u) u).map by8, BlB y := fun y hy => by obtain ⟨b, _, rfl⟩ := List.mem_map.1 hy; exact Bfs b
  have hda := Bl2 u
  simp -dsimp (disch := first | assumption | omega | (simp only [A3b]; done) | (simp only [A3b]; omega)) only [↓A3g, A3c, A3e, A3f, eq_self, forall_const, Nat.reduceLT, Nat.reduceEqDiff, Nat.reduceSub, Nat.reduceMul, Nat.reduceMod, Nat.reduceDiv, Nat.reducePow, UInt8.reduceToNat, Int.reduceEq, Int.reduceLT, Int.reduceLE, ↓reduceIte, Nat.reduceAdd, Int.reduceToNat, reduceCtorEq, Nat.reduceLeDiff, ↓A3K, htk, hdl]
  rw [hda]
/-- AppendUint at base 10, to a row of one's own. -/
theorem BlH {L : List UInt8} {u : Nat} (hL : L.length ≤ 1000000) (hu : u < 9223372036854775808) {id v cp N : Nat} {H : List Ob} (ho : H[id]? = some (.obj v (.arr N 1 (L.map by8)))) {K : TV → List Ob → Prop}
  (hK : ∀ H' v', H.length ≤ H'.length → (∀ i, i < H.length → i ≠ id → H'[i]? = H[i]?) → H'[id]? = some (.obj v' (.arr (L ++ Lib.decDigits u).length 1 ((L ++ Lib.decDigits u).map by8))) → K (.os 1 id v' [] 0 (L ++ Lib.decDigits u).length (L ++ Lib.decDigits u).length) H') :
  A3p Tryz.prog 36 [.os 1 id v [] 0 L.length cp, .val (.int .u64 (u : Int)), i64 ((10 : Nat) : Int)] H K := by
 refine A8y (by simp) ?_
 have hid : id < H.length := (List.getElem?_eq_some_iff.1 ho).1
 have htL : (L.map by8).take L.length = L.map by8 := List.take_of_length_le (by simp)
 have hn := Lib.nDigits_le20 u (by omega)
 have hdu := Bi2 u
 have hK' := hK
 by_cases c : u < 100
 ·have hw : IntKind.i64.wrap (u : Int) = (u : Int) := A5X (by omega) (by omega)
  simp -dsimp (disch := first | assumption | omega | (simp only [A3b]; done) | (simp only [A3b]; omega)) only [↓A3g, A3c, A3e, A3f, eq_self, forall_const, Nat.reduceLT, Nat.reduceEqDiff, Nat.reduceSub, Nat.reduceMul, Nat.reduceMod, Nat.reduceDiv, Nat.reducePow, UInt8.reduceToNat, Int.reduceEq, Int.reduceLT, Int.reduceLE, ↓reduceIte, Nat.reduceAdd, Int.reduceToNat, reduceCtorEq, Nat.reduceLeDiff, ↓A3J, hw]
  refine (Bum u c).calls rfl fun r hr => ?_
  subst hr
  simp -dsimp (disch := first | assumption | omega | (simp only [A3b]; done) | (simp only [A3b]; omega)) only [↓A3g, A3c, A3e, A3f, eq_self, forall_const, Nat.reduceLT, Nat.reduceEqDiff, Nat.reduceSub, Nat.reduceMul, Nat.reduceMod, Nat.reduceDiv, Nat.reducePow, UInt8.reduceToNat, Int.reduceEq, Int.reduceLT, Int.reduceLE, ↓reduceIte, Nat.reduceAdd, Int.reduceToNat, reduceCtorEq, Nat.reduceLeDiff, ↓A3J, ho, htL, Buw]
  have e1 : L.map by8 ++ (Lib.decDigits u).map by8 = (L ++ Lib.decDigits u).map by8 := by simp
  rw [e1, ← List.length_append]
  exact hK _ _ (by simp) (fun i hi hne => List.getElem?_set_ne (Ne.symm hne)) (List.getElem?_set_self hid)
 ·have hp := Lib.nDigits_pos u
  have hlt := BiM u
  have hz := BkC (n := Lib.nDigits u) (by omega)
  simp only [List.replicate] at hz
  simp -dsimp (disch := first | assumption | omega | (simp only [A3b]; done) | (simp only [A3b]; omega)) only [↓A3g, A3c, A3e, A3f, eq_self, forall_const, Nat.reduceLT, Nat.reduceEqDiff, Nat.reduceSub, Nat.reduceMul, Nat.reduceMod, Nat.reduceDiv, Nat.reducePow, UInt8.reduceToNat, Int.reduceEq, Int.reduceLT, Int.reduceLE, ↓reduceIte, Nat.reduceAdd, Int.reduceToNat, reduceCtorEq, Nat.reduceLeDiff, ↓A3J]
  refine (BiQ u (by omega) (by omega)).calls rfl fun r hr => ?_
  subst hr
  simp -dsimp (disch := first | assumption | omega | (simp only [A3b]; done) | (simp only [A3b]; omega)) only [↓A3g, A3c, A3e, A3f, eq_self, forall_const, Nat.reduceLT, Nat.reduceEqDiff, Nat.reduceSub, Nat.reduceMul, Nat.reduceMod, Nat.reduceDiv, Nat.reducePow, UInt8.reduceToNat, Int.reduceEq, Int.reduceLT, Int.reduceLE, ↓reduceIte, Nat.reduceAdd, Int.reduceToNat, reduceCtorEq, Nat.reduceLeDiff, ↓A3J]
  rw [hz]
  have hat : ∀ o : Ob, (H ++ [o])[H.length]? = some o := fun o => by rw [List.getElem?_append_right (Nat.le_refl _), Nat.sub_self]; rfl
  have hst : ∀ o o' : Ob, (H ++ [o]).set H.length o' = H ++ [o'] := fun o o' => by rw [List.set_append_right _ _ (Nat.le_refl _), Nat.sub_self]; rfl
  have hlow : ∀ o : Ob, (H ++ [o])[id]? = H[id]? := fun o => List.getElem?_append_left hid
  refine BgW (Bxz hlt hp (by omega) (by omega) (by simp) (hat _) ?_)
  rw [hst]
  have hdl : (dgs (Lib.nDigits u) u).length = Lib.nDigits u := Bjx _ _
  have htk : ∀ R : List TV, ((dgs (Lib.nDigits u) u).map by8 ++ R).take (Lib.nDigits u) = (dgs (Lib.nDigits u) u).map by8 := fun R => List.take_left' (by simp [hdl])
  have hda := Bl2 u
  simp -dsimp (disch := first | assumption | omega | (simp only [A3b]; done) | (simp only [A3b]; omega)) only [↓A3g, A3c, A3e, A3f, eq_self, forall_const, Nat.reduceLT, Nat.reduceEqDiff, Nat.reduceSub, Nat.reduceMul, Nat.reduceMod, Nat.reduceDiv, Nat.reducePow, UInt8.reduceToNat, Int.reduceEq, Int.reduceLT, Int.reduceLE, ↓reduceIte, Nat.reduceAdd, Int.reduceToNat, reduceCtorEq, Nat.reduceLeDiff, ↓A3J, htk, hdl, hat, hlow, ho, htL]
  rw [hda]
  have e1 : L.map by8 ++ (Lib.decDigits u).map by8 = (L ++ Lib.decDigits u).map by8 := by simp
  have e2 : L.length + Lib.nDigits u = (L ++ Lib.decDigits u).length := by rw [List.length_append, hdu]
  rw [e1, e2]
  exact hK _ _ (by simp) (fun i hi hne => by rw [List.getElem?_append_left (by simpa using hi), List.getElem?_set_ne (Ne.symm hne)]) (by rw [List.getElem?_append_left (by simpa using hid), List.getElem?_set_self hid])
theorem Bnk {L : List UInt8} {u : Nat} (hL : L.length ≤ 1000000) (hu : u < 9223372036854775808) {id v cp N : Nat} {H : List Ob} (ho : H[id]? = some (.obj v (.arr N 1 (L.map by8)))) {K : TV → List Ob → Prop}
  (hK : ∀ H' v', H.length ≤ H'.length → (∀ i, i < H.length → i ≠ id → H'[i]? = H[i]?) → H'[id]? = some (.obj v' (.arr (L ++ Lib.decDigits u).length 1 ((L ++ Lib.decDigits u).map by8))) → K (.os 1 id v' [] 0 (L ++ Lib.decDigits u).length (L ++ Lib.decDigits u).length) H') :
  A3p Tryz.prog 15 [.os 1 id v [] 0 L.length cp, i64 (u : Int), i64 ((10 : Nat) : Int)] H K := by
 refine Bc4 (by simp) ?_
 simp -dsimp (disch := first | assumption | omega | (simp only [A3b]; done) | (simp only [A3b]; omega)) only [↓A3g, A3c, A3e, A3f, eq_self, forall_const, Nat.reduceLT, Nat.reduceEqDiff, Nat.reduceSub, Nat.reduceMul, Nat.reduceMod, Nat.reduceDiv, Nat.reducePow, UInt8.reduceToNat, Int.reduceEq, Int.reduceLT, Int.reduceLE, ↓reduceIte, Nat.reduceAdd, Int.reduceToNat, reduceCtorEq, Nat.reduceLeDiff, ↓A9l]
 refine BgW (A8H (by simp) ?_)
 have hw : IntKind.u64.wrap (u : Int) = (u : Int) := Bd0 (by omega)
 simp -dsimp (disch := first | assumption | omega | (simp only [A3b]; done) | (simp only [A3b]; omega)) only [↓A3g, A3c, A3e, A3f, eq_self, forall_const, Nat.reduceLT, Nat.reduceEqDiff, Nat.reduceSub, Nat.reduceMul, Nat.reduceMod, Nat.reduceDiv, Nat.reducePow, UInt8.reduceToNat, Int.reduceEq, Int.reduceLT, Int.reduceLE, ↓reduceIte, Nat.reduceAdd, Int.reduceToNat, reduceCtorEq, Nat.reduceLeDiff, ↓A56, hw]
 refine BgW (BlH hL hu ho fun H' v' h1 h2 h3 => ?_)
 simp -dsimp (disch := first | assumption | omega | (simp only [A3b]; done) | (simp only [A3b]; omega)) only [↓A3g, A3c, A3e, A3f, eq_self, forall_const, Nat.reduceLT, Nat.reduceEqDiff, Nat.reduceSub, Nat.reduceMul, Nat.reduceMod, Nat.reduceDiv, Nat.reducePow, UInt8.reduceToNat, Int.reduceEq, Int.reduceLT, Int.reduceLE, ↓reduceIte, Nat.reduceAdd, Int.reduceToNat, reduceCtorEq, Nat.reduceLeDiff, ↓A56, ↓A9l]
 rw [← List.length_append]
 exact hK H' v' h1 h2 h3
theorem Bl9 (u : Nat) (hu : u < 18446744073709551616) : A4p Tryz.prog 45 [.val (.int .u64 (u : Int)), i64 ((10 : Nat) : Int)] (fun x => x = ts (Lib.decDigits u)) := by
 refine A3p.toPureV (Bcx (by simp) ?_)
 simp -dsimp (disch := first | assumption | omega | (simp only [A3b]; done) | (simp only [A3b]; omega)) only [↓A3g, A3c, A3e, A3f, eq_self, forall_const, Nat.reduceLT, Nat.reduceEqDiff, Nat.reduceSub, Nat.reduceMul, Nat.reduceMod, Nat.reduceDiv, Nat.reducePow, UInt8.reduceToNat, Int.reduceEq, Int.reduceLT, Int.reduceLE, ↓reduceIte, Nat.reduceAdd, Int.reduceToNat, reduceCtorEq, Nat.reduceLeDiff, ↓A8Q]
 refine (Bmh u hu).calls rfl fun r hr => ?_
 subst hr
 simp -dsimp (disch := first | assumption | omega | (simp only [A3b]; done) | (simp only [A3b]; omega)) only [↓A3g, A3c, A3e, A3f, eq_self, forall_const, Nat.reduceLT, Nat.reduceEqDiff, Nat.reduceSub, Nat.reduceMul, Nat.reduceMod, Nat.reduceDiv, Nat.reducePow, UInt8.reduceToNat, Int.reduceEq, Int.reduceLT, Int.reduceLE, ↓reduceIte, Nat.reduceAdd, Int.reduceToNat, reduceCtorEq, Nat.reduceLeDiff, ↓A8Q]
end Go.Proofs.YtmlompedpahkjaaGreatDoor


namespace Go.Proofs.YtmlompedpahkjaaGreatDoor
variable [A4e]
set_option linter.unusedSectionVars false
set_option linter.unusedVariables false
set_option linter.defProp false
set_option maxRecDepth 100000

def A9W : A3d := .seq (.ops [po_ 18 (.fieldA 1 1 (.t 1)),
  po_ 19 (.load false 1 (.t 18)),
  po_ 20 (.lenV (.t 19)),
  po_ 21 (.bin 3 .gtr (.t 20) (ci_ 100000)),
  mv_ 17 21] [1, 4, 17])
 (.cond (.t 17)
 (.seq (.ops [po_ 22 (.iface 35 (ci_ 11)),
   po_ 2 (.mov (.c (.slice none 0 0))),
   mv_ 3 22] [2, 3])
  (.ret))
 (.skip))
def A9B : A3d := .seq (.ops [mv_ 27 6,
  po_ 28 (.fieldA 1 1 (.t 1)),
  po_ 29 (.load false 1 (.t 28)),
  po_ 30 (.lenV (.t 29)),
  so_ 31 (.call 15 [.t 27, .t 30, .c (.int .i64 ((10 : Nat) : Int))]),
  mv_ 6 31] [1, 6])
 (.seq (.sdraw 10003 [mv_ 32 6,
  po_ 35 (.fieldA 1 1 (.t 1)),
  po_ 36 (.load false 1 (.t 35)),
  ⟨some 33, .s (.bslice 1 1 (.val (.int .u8 ((0 : Nat) : Int))) [⟨0, .c (.int .u8 ((0 : Nat) : Int))⟩]), none⟩,
  so_ 34 (.app 1 1 5 (.t 32) (.t 33)),
  so_ 37 (.app 1 1 5 (.t 34) (.t 36)),
  mv_ 2 37,
  po_ 3 (.mov (.c .nilIface))] [2, 3])
 (.ret))
def A9I : A3d := .seq (.ops [mv_ 23 4,
  so_ 24 (.s2b (.t 23)),
  ⟨some 25, .s (.bslice 1 1 (.val (.int .u8 ((0 : Nat) : Int))) [⟨0, .c (.int .u8 ((32 : Nat) : Int))⟩]), none⟩,
  so_ 26 (.app 1 1 5 (.t 24) (.t 25)),
  mv_ 6 26] [1, 6])
 A9B
def A9H : A3d := .seq (.block 0 (.seq (.ops [mv_ 14 5,
  po_ 15 (.un .not (.t 14)),
  mv_ 13 15] [1, 4, 13])
 (.cond (.t 13)
 (.seq (.ops [po_ 16 (.iface 35 (ci_ 20)),
   po_ 2 (.mov (.c (.slice none 0 0))),
   mv_ 3 16] [2, 3])
  (.ret))
 A9W)))
 A9I
def A9P : A3d := .seq (.ops [po_ 8 (.fieldA 0 0 (.t 1)),
  po_ 9 (.load false 1 (.t 8)),
  so_ 10 (.call 14 [.t 9]),
  mv_ 7 10,
  po_ 11 (.ext 0 (.t 7)),
  po_ 12 (.ext 1 (.t 7)),
  mv_ 4 11,
  mv_ 5 12] [1, 4, 5])
 A9H
def BcI : A3d := .seq (.ops [so_ 1 (.box (.t 0)),
  po_ 2 (.mov (.c (.slice none 0 0))),
  po_ 3 (.mov (.c .nilIface))] [1])
 A9P
def BcM : List VR := [.tmp 2, .tmp 3]
theorem BhE : Tryz.f5.body.bind (trC Tryz.prog Tryz.f5.ntmps) = some (er BcI) := by kernel_rfl
theorem BhO : trR Tryz.prog Tryz.f5.results.toList = some BcM := by kernel_rfl
def A8N := A3a A9W.eq_1
def Bda := A3a A9B.eq_1
def Bc5 := A3a A9I.eq_1
def A6s := A3a A9H.eq_1
def Bc2 := A3a A9P.eq_1
def BfT := A3a BcI.eq_1
theorem A8o {K : TV → Prop} {e : Env} {H : List Ob} : res BcM e H K = res [.tmp 2, .tmp 3] e H K := A29 rfl
def BgL := A7f 38 Tryz.func5 BhE BhO rfl

def Bdx : A3d := .seq (.ops [po_ 7 (.load true 2 (.t 1)),
  so_ 8 (.call 5 [.t 7]),
  mv_ 6 8,
  po_ 9 (.ext 0 (.t 6)),
  po_ 10 (.ext 1 (.t 6)),
  mv_ 4 9,
  mv_ 5 10] [2, 4, 5])
 (.seq (.seq (.ops [mv_ 11 5,
  po_ 12 (.eqN 1 (.t 11) (.c .nilIface) true)] [2, 4, 5, 12])
 (.cond (.t 12)
 (.seq (.ops [po_ 13 (.buildA 20 1 [.val (.int .u8 ((0 : Nat) : Int)), .val (.int .u8 ((0 : Nat) : Int)), .val (.int .u8 ((0 : Nat) : Int)), .val (.int .u8 ((0 : Nat) : Int)), .val (.int .u8 ((0 : Nat) : Int)), .val (.int .u8 ((0 : Nat) : Int)), .val (.int .u8 ((0 : Nat) : Int)), .val (.int .u8 ((0 : Nat) : Int)), .val (.int .u8 ((0 : Nat) : Int)), .val (.int .u8 ((0 : Nat) : Int)), .val (.int .u8 ((0 : Nat) : Int)), .val (.int .u8 ((0 : Nat) : Int)), .val (.int .u8 ((0 : Nat) : Int)), .val (.int .u8 ((0 : Nat) : Int)), .val (.int .u8 ((0 : Nat) : Int)), .val (.int .u8 ((0 : Nat) : Int)), .val (.int .u8 ((0 : Nat) : Int)), .val (.int .u8 ((0 : Nat) : Int)), .val (.int .u8 ((0 : Nat) : Int)), .val (.int .u8 ((0 : Nat) : Int))] []),
   mv_ 14 5,
   ⟨none, .s (.store 20 (.t 2) (.t 13)), none⟩,
   mv_ 3 14] [2, 3])
  (.ret))
 (.skip)))
 (.seq (.ops [mv_ 15 4,
  so_ 16 (.call 16 [.t 15]),
  ⟨none, .s (.store 20 (.t 2) (.t 16)), none⟩,
  po_ 3 (.mov (.c .nilIface))] [2, 3])
 (.ret)))
def Bhp : A3d := .seq (.ops [so_ 1 (.box (.t 0)),
  so_ 2 (.alloc (.arr 20 1 [.val (.int .u8 ((0 : Nat) : Int)), .val (.int .u8 ((0 : Nat) : Int)), .val (.int .u8 ((0 : Nat) : Int)), .val (.int .u8 ((0 : Nat) : Int)), .val (.int .u8 ((0 : Nat) : Int)), .val (.int .u8 ((0 : Nat) : Int)), .val (.int .u8 ((0 : Nat) : Int)), .val (.int .u8 ((0 : Nat) : Int)), .val (.int .u8 ((0 : Nat) : Int)), .val (.int .u8 ((0 : Nat) : Int)), .val (.int .u8 ((0 : Nat) : Int)), .val (.int .u8 ((0 : Nat) : Int)), .val (.int .u8 ((0 : Nat) : Int)), .val (.int .u8 ((0 : Nat) : Int)), .val (.int .u8 ((0 : Nat) : Int)), .val (.int .u8 ((0 : Nat) : Int)), .val (.int .u8 ((0 : Nat) : Int)), .val (.int .u8 ((0 : Nat) : Int)), .val (.int .u8 ((0 : Nat) : Int)), .val (.int .u8 ((0 : Nat) : Int))])),
  po_ 3 (.mov (.c .nilIface))] [1, 2])
 Bdx
def Bhr : List VR := [.cell 2 true 20, .tmp 3]
theorem BlP : Tryz.f6.body.bind (trC Tryz.prog Tryz.f6.ntmps) = some (er Bhp) := by kernel_rfl
theorem Bl1 : trR Tryz.prog Tryz.f6.results.toList = some Bhr := by kernel_rfl
def BgD := A3a Bdx.eq_1
def Bjf := A3a Bhp.eq_1
theorem Bby {K : TV → Prop} {e : Env} {H : List Ob} : res Bhr e H K = res [.cell 2 true 20, .tmp 3] e H K := A29 rfl
def Bkl := A7f 17 Tryz.func6 BlP Bl1 rfl

def A7J : A3d := .seq (.seq (.ops [mv_ 40 6,
  po_ 41 (.un .not (.t 40)),
  mv_ 42 41,
  ⟨some 43, .p (.mov (.t 9)), some ⟨42, false⟩⟩,
  ⟨some 44, .p (.un .not (.t 43)), some ⟨42, false⟩⟩,
  po_ 45 (.pick (.t 42) (.c (.bool true)) (.t 44)),
  mv_ 46 45,
  ⟨some 47, .p (.mov (.t 11)), some ⟨46, false⟩⟩,
  ⟨some 48, .p (.un .not (.t 47)), some ⟨46, false⟩⟩,
  po_ 49 (.pick (.t 46) (.c (.bool true)) (.t 48)),
  mv_ 50 49,
  ⟨some 51, .p (.mov (.t 13)), some ⟨50, false⟩⟩,
  ⟨some 52, .p (.un .not (.t 51)), some ⟨50, false⟩⟩,
  po_ 53 (.pick (.t 50) (.c (.bool true)) (.t 52)),
  mv_ 54 53,
  ⟨some 55, .p (.mov (.t 12)), some ⟨54, false⟩⟩,
  ⟨some 56, .p (.mov (.t 5)), some ⟨54, false⟩⟩,
  ⟨some 57, .p (.lenV (.t 56)), some ⟨54, false⟩⟩,
  ⟨some 58, .p (.bin 2 .neq (.t 55) (.t 57)), some ⟨54, false⟩⟩,
  po_ 59 (.pick (.t 54) (.c (.bool true)) (.t 58)),
  mv_ 60 59,
  ⟨some 61, .p (.mov (.t 12)), some ⟨60, false⟩⟩,
  ⟨some 62, .p (.bin 2 .gtr (.t 61) (ci_ 100000)), some ⟨60, false⟩⟩,
  po_ 63 (.pick (.t 60) (.c (.bool true)) (.t 62))] [2, 5, 10, 63])
 (.cond (.t 63)
 (.seq (.ops [po_ 64 (.build [.val (.int .i64 ((0 : Nat) : Int)), .val (.slice none 0 0)] [1, 1] []),
   po_ 65 (.iface 35 (ci_ 24)),
   ⟨none, .s (.store 2 (.t 2) (.t 64)), none⟩,
   mv_ 3 65] [2, 3])
  (.ret))
 (.skip)))
 (.seq (.ops [mv_ 66 10,
  mv_ 67 5,
  so_ 68 (.call 35 [.t 67]),
  ⟨some 69, .p (.build [.val (.int .i64 ((0 : Nat) : Int)), .val (.slice none 0 0)] [1, 1] [⟨0, .t 66⟩, ⟨1, .t 68⟩]), none⟩,
  ⟨none, .s (.store 2 (.t 2) (.t 69)), none⟩,
  po_ 3 (.mov (.c .nilIface))] [2, 3])
 (.ret))
def A7z : A3d := .seq (.ops [mv_ 35 8,
  po_ 36 (.b2s (.t 35)),
  so_ 37 (.call 34 [.t 36]),
  mv_ 34 37,
  po_ 38 (.ext 0 (.t 34)),
  po_ 39 (.ext 1 (.t 34)),
  mv_ 12 38,
  mv_ 13 39] [2, 5, 6, 9, 10, 11, 12, 13])
 A7J
def A7O : A3d := .seq (.ops [mv_ 29 7,
  po_ 30 (.b2s (.t 29)),
  so_ 31 (.call 33 [.t 30]),
  mv_ 28 31,
  po_ 32 (.ext 0 (.t 28)),
  po_ 33 (.ext 1 (.t 28)),
  mv_ 10 32,
  mv_ 11 33] [2, 5, 6, 8, 9, 10, 11])
 A7z
def A9J : A3d := .seq (.opsZ [mv_ 22 4,
  ⟨some 23, .s (.bslice 1 1 (.val (.int .u8 ((0 : Nat) : Int))) [⟨0, .c (.int .u8 ((32 : Nat) : Int))⟩]), none⟩] [23] [so_ 24 (.call 32 [.t 22, .t 23]),
  mv_ 21 24,
  po_ 25 (.ext 0 (.t 21)),
  po_ 26 (.ext 1 (.t 21)),
  po_ 27 (.ext 2 (.t 21)),
  mv_ 7 25,
  mv_ 8 26,
  mv_ 9 27] [2, 5, 6, 7, 8, 9])
 A7O
def A9R : A3d := .seq (.opsZ [mv_ 15 0,
  ⟨some 16, .s (.bslice 1 1 (.val (.int .u8 ((0 : Nat) : Int))) [⟨0, .c (.int .u8 ((0 : Nat) : Int))⟩]), none⟩] [16] [so_ 17 (.call 32 [.t 15, .t 16]),
  mv_ 14 17,
  po_ 18 (.ext 0 (.t 14)),
  po_ 19 (.ext 1 (.t 14)),
  po_ 20 (.ext 2 (.t 14)),
  mv_ 4 18,
  mv_ 5 19,
  mv_ 6 20] [2, 4, 5, 6])
 A9J
def Bcr : A3d := .seq (.ops [so_ 2 (.alloc (.agg [.val (.int .i64 ((0 : Nat) : Int)), .val (.slice none 0 0)])),
  po_ 3 (.mov (.c .nilIface))] [0, 2])
 A9R
def A6f : List VR := [.cell 2 true 2, .tmp 3]
theorem Bht : Tryz.f21.body.bind (trC Tryz.prog Tryz.f21.ntmps) = some (er Bcr) := by kernel_rfl
theorem BhD : trR Tryz.prog Tryz.f21.results.toList = some A6f := by kernel_rfl
def A3Z := A3a A7J.eq_1
def A8S := A3a A7z.eq_1
def Bdm := A3a A7O.eq_1
def A8L := A3a A9J.eq_1
def Bdj := A3a A9R.eq_1
def Bgc := A3a Bcr.eq_1
theorem A3X {K : TV → Prop} {e : Env} {H : List Ob} : res A6f e H K = res [.cell 2 true 2, .tmp 3] e H K := A29 rfl
def BgQ := A7f 70 Tryz.func21 Bht BhD rfl

def A8O : A3d := .seq (.seq (.ops [mv_ 4 0,
  po_ 5 (.bin 22 .lss (.t 4) (ci_ 1)),
  mv_ 6 5,
  ⟨some 7, .p (.mov (.t 0)), some ⟨6, false⟩⟩,
  ⟨some 8, .p (.bin 22 .gtr (.t 7) (ci_ 4)), some ⟨6, false⟩⟩,
  po_ 9 (.pick (.t 6) (.c (.bool true)) (.t 8))] [0, 9])
 (.cond (.t 9)
 (.seq (.ops [po_ 2 (.mov (.c (.string (str [])))),
   po_ 3 (.mov (.c (.bool false)))] [2, 3])
  (.ret))
 (.skip)))
 (.seq (.ops [mv_ 10 0,
  po_ 11 (.idxAA 5 1 (.g 0) (.t 10)),
  po_ 12 (.load false 1 (.t 11)),
  mv_ 2 12,
  po_ 3 (.mov (.c (.bool true)))] [2, 3])
 (.ret))
def Bbh : A3d := .seq (.ops [po_ 2 (.mov (.c (.string (str [])))),
  po_ 3 (.mov (.c (.bool false)))] [0])
 A8O
def BaX : List VR := [.tmp 2, .tmp 3]
theorem BfQ : Tryz.f14.body.bind (trC Tryz.prog Tryz.f14.ntmps) = some (er Bbh) := by kernel_rfl
theorem Bgd : trR Tryz.prog Tryz.f14.results.toList = some BaX := by kernel_rfl
def Bcc := A3a A8O.eq_1
def Bd8 := A3a Bbh.eq_1
theorem BeA {K : TV → Prop} {e : Env} {H : List Ob} : res BaX e H K = res [.tmp 2, .tmp 3] e H K := A29 rfl
def A75 := (And.intro (And.intro @Bcc @Bd8) @BeA)
def Bfe := A7f 13 Tryz.func14 BfQ Bgd rfl

def A9U : A3d := .seq (.block 1 (.seq (.ops [mv_ 9 7,
  po_ 10 (.idx false 5 1 (.t 6) (.t 7)),
  mv_ 4 9,
  mv_ 5 10] [0, 4, 5, 6, 7])
 (.seq (.ops [mv_ 11 5,
  mv_ 12 0,
  po_ 13 (.bin 9 .eql (.t 11) (.t 12)),
  mv_ 14 13,
  ⟨some 15, .p (.mov (.t 0)), some ⟨14, true⟩⟩,
  ⟨some 16, .p (.bin 9 .neq (.t 15) (.c (.string (str [])))), some ⟨14, true⟩⟩,
  po_ 17 (.pick (.t 14) (.t 16) (.c (.bool false)))] [0, 4, 6, 7, 17])
 (.cond (.t 17)
 (.seq (.ops [mv_ 18 4,
   mv_ 2 18,
   po_ 3 (.mov (.c (.bool true)))] [2, 3])
  (.ret))
 (.skip)))))
 (.ops [po_ 19 (.bin 3 .add (.t 7) (ci_ 1)),
  mv_ 7 19] [0, 6, 7])
def A9F : A3d := .seq (.cond (.t 8)
 (.skip)
 (.exit 0))
 A9U
def A9V : A3d := .seq (.ops [po_ 8 (.bin 3 .lss (.t 7) (ci_ 5))] [0, 6, 7, 8])
 A9F
def A9D : A3d := .block 0 (.loop [0, 6, 7] A9V)
def A90 : A3d := .seq (.ops [po_ 2 (.mov (ci_ 0)),
  po_ 3 (.mov (.c (.bool false)))] [2, 3])
 (.ret)
def A9Z : A3d := .seq (.seq (.ops [po_ 6 (.load true 5 (.g 0)),
  po_ 7 (.mov (ci_ 0))] [0, 6, 7])
 A9D)
 A90
def BcG : A3d := .seq (.ops [po_ 2 (.mov (ci_ 0)),
  po_ 3 (.mov (.c (.bool false)))] [0])
 A9Z
def Bcg : List VR := [.tmp 2, .tmp 3]
theorem Bhk : Tryz.f33.body.bind (trC Tryz.prog Tryz.f33.ntmps) = some (er BcG) := by kernel_rfl
theorem Bhx : trR Tryz.prog Tryz.f33.results.toList = some Bcg := by kernel_rfl
def Bc9 := A3a A9U.eq_1
def Bc3 := A3a A9F.eq_1
def Bc7 := A3a A9V.eq_1
def Bdh := A3a A9D.eq_1
def Bdl := A3a A90.eq_1
def Bdd := A3a A9Z.eq_1
def Bgh := A3a BcG.eq_1
theorem Bf2 {K : TV → Prop} {e : Env} {H : List Ob} : res Bcg e H K = res [.tmp 2, .tmp 3] e H K := A29 rfl
def A3I := (And.intro (And.intro (And.intro @Bc9 @Bc3) (And.intro @Bc7 @Bdh)) (And.intro (And.intro @Bdl @Bdd) (And.intro @Bgh @Bf2)))
def BgP := A7f 20 Tryz.func33 Bhk Bhx rfl

def A9n : A3d := .seq (.ops [mv_ 7 0,
  so_ 8 (.call 44 [.t 7, .c (.int .i64 ((10 : Nat) : Int)), .c (.int .i64 ((62 : Nat) : Int))]),
  mv_ 6 8,
  po_ 9 (.ext 0 (.t 6)),
  po_ 10 (.ext 1 (.t 6)),
  mv_ 4 9,
  mv_ 5 10] [0, 4, 5])
 (.seq (.ops [mv_ 11 4,
  po_ 12 (.conv .i64 (.t 11)),
  mv_ 13 5,
  po_ 14 (.eqN 1 (.t 13) (.c .nilIface) false),
  mv_ 15 14,
  ⟨some 16, .p (.mov (.t 4)), some ⟨15, true⟩⟩,
  ⟨some 17, .s (.call 45 [.t 16, .c (.int .i64 ((10 : Nat) : Int))]), some ⟨15, true⟩⟩,
  ⟨some 18, .p (.mov (.t 0)), some ⟨15, true⟩⟩,
  ⟨some 19, .p (.bin 9 .eql (.t 17) (.t 18)), some ⟨15, true⟩⟩,
  po_ 20 (.pick (.t 15) (.t 19) (.c (.bool false))),
  mv_ 2 12,
  mv_ 3 20] [2, 3])
 (.ret))
def BbF : A3d := .seq (.ops [po_ 2 (.mov (ci_ 0)),
  po_ 3 (.mov (.c (.bool false)))] [0])
 A9n
def Bb0 : List VR := [.tmp 2, .tmp 3]
theorem Bg1 : Tryz.f34.body.bind (trC Tryz.prog Tryz.f34.ntmps) = some (er BbF) := by kernel_rfl
theorem BgO : trR Tryz.prog Tryz.f34.results.toList = some Bb0 := by kernel_rfl
def Bcs := A3a A9n.eq_1
def Be0 := A3a BbF.eq_1
theorem Bfi {K : TV → Prop} {e : Env} {H : List Ob} : res Bb0 e H K = res [.tmp 2, .tmp 3] e H K := A29 rfl
def A6L := (And.intro (And.intro @Bcs @Be0) @Bfi)
def BfM := A7f 21 Tryz.func34 Bg1 BgO rfl

def BbB : A3d := .seq (.ops [mv_ 21 5,
  po_ 22 (.fieldA 1 1 (.t 1)),
  po_ 23 (.load false 1 (.t 22)),
  po_ 24 (.lenV (.t 23)),
  so_ 25 (.call 19 [.t 24]),
  so_ 26 (.appS 5 (.t 21) (.t 25)),
  mv_ 5 26] [1, 5])
 (.seq (.ops [mv_ 27 5,
  ⟨some 28, .s (.bslice 1 1 (.val (.int .u8 ((0 : Nat) : Int))) [⟨0, .c (.int .u8 ((0 : Nat) : Int))⟩]), none⟩,
  so_ 29 (.app 1 1 5 (.t 27) (.t 28)),
  mv_ 5 29] [1, 5])
 (.seq (.ops [mv_ 30 5,
  po_ 31 (.fieldA 1 1 (.t 1)),
  po_ 32 (.load false 1 (.t 31)),
  so_ 33 (.app 1 1 5 (.t 30) (.t 32)),
  mv_ 2 33,
  po_ 3 (.mov (ci_ 0))] [2, 3])
 (.ret)))
def Bb5 : A3d := .seq (.ops [mv_ 18 5,
  ⟨some 19, .s (.bslice 1 1 (.val (.int .u8 ((0 : Nat) : Int))) [⟨0, .c (.int .u8 ((32 : Nat) : Int))⟩]), none⟩,
  so_ 20 (.app 1 1 5 (.t 18) (.t 19)),
  mv_ 5 20] [1, 5])
 BbB
def BbS : A3d := .seq (.ops [mv_ 15 5,
  mv_ 16 4,
  so_ 17 (.appS 5 (.t 15) (.t 16)),
  mv_ 5 17] [1, 5])
 Bb5
def BbT : A3d := .seq (.ops [po_ 5 (.mov (.c (.slice none 0 0)))] [1, 4, 5])
 BbS
def BbC : A3d := .seq (.seq (.ops [po_ 11 (.fieldA 1 1 (.t 1)),
  po_ 12 (.load false 1 (.t 11)),
  po_ 13 (.lenV (.t 12)),
  po_ 14 (.bin 3 .gtr (.t 13) (ci_ 100000))] [1, 4, 14])
 (.cond (.t 14)
 (.seq (.ops [po_ 2 (.mov (.c (.slice none 0 0))),
   po_ 3 (.mov (ci_ 11))] [2, 3])
  (.ret))
 (.skip)))
 BbT
def BbG : A3d := .seq (.seq (.ops [mv_ 9 4,
  po_ 10 (.bin 9 .eql (.t 9) (.c (.string (str []))))] [1, 4, 10])
 (.cond (.t 10)
 (.seq (.ops [po_ 2 (.mov (.c (.slice none 0 0))),
   po_ 3 (.mov (ci_ 20))] [2, 3])
  (.ret))
 (.skip)))
 BbC
def BbQ : A3d := .seq (.ops [po_ 6 (.fieldA 0 0 (.t 1)),
  po_ 7 (.load false 1 (.t 6)),
  so_ 8 (.call 18 [.t 7]),
  mv_ 4 8] [1, 4])
 BbG
def Bfx : A3d := .seq (.ops [so_ 1 (.box (.t 0)),
  po_ 2 (.mov (.c (.slice none 0 0))),
  po_ 3 (.mov (ci_ 0))] [1])
 BbQ
def Bfu : List VR := [.tmp 2, .tmp 3]
theorem Bjg : Tryz.f10.body.bind (trC Tryz.prog Tryz.f10.ntmps) = some (er Bfx) := by kernel_rfl
theorem BjB : trR Tryz.prog Tryz.f10.results.toList = some Bfu := by kernel_rfl
def Be5 := A3a BbB.eq_1
def BeR := A3a Bb5.eq_1
def Bfc := A3a BbS.eq_1
def BfE := A3a BbT.eq_1
def A9Y := A3a BbC.eq_1
def A7x := A3a BbG.eq_1
def Bfq := A3a BbQ.eq_1
def Bhi := A3a Bfx.eq_1
theorem A9d {K : TV → Prop} {e : Env} {H : List Ob} : res Bfu e H K = res [.tmp 2, .tmp 3] e H K := A29 rfl
def Bie := A7f 34 Tryz.func10 Bjg BjB rfl

def BgA : A3d := .seq (.ops [po_ 7 (.load true 2 (.t 1)),
  so_ 8 (.call 10 [.t 7]),
  mv_ 6 8,
  po_ 9 (.ext 0 (.t 6)),
  po_ 10 (.ext 1 (.t 6)),
  mv_ 4 9,
  mv_ 5 10] [2, 4, 5])
 (.seq (.seq (.ops [mv_ 11 5,
  po_ 12 (.bin 3 .neq (.t 11) (ci_ 0))] [2, 4, 5, 12])
 (.cond (.t 12)
 (.seq (.ops [po_ 13 (.buildA 20 1 [.val (.int .u8 ((0 : Nat) : Int)), .val (.int .u8 ((0 : Nat) : Int)), .val (.int .u8 ((0 : Nat) : Int)), .val (.int .u8 ((0 : Nat) : Int)), .val (.int .u8 ((0 : Nat) : Int)), .val (.int .u8 ((0 : Nat) : Int)), .val (.int .u8 ((0 : Nat) : Int)), .val (.int .u8 ((0 : Nat) : Int)), .val (.int .u8 ((0 : Nat) : Int)), .val (.int .u8 ((0 : Nat) : Int)), .val (.int .u8 ((0 : Nat) : Int)), .val (.int .u8 ((0 : Nat) : Int)), .val (.int .u8 ((0 : Nat) : Int)), .val (.int .u8 ((0 : Nat) : Int)), .val (.int .u8 ((0 : Nat) : Int)), .val (.int .u8 ((0 : Nat) : Int)), .val (.int .u8 ((0 : Nat) : Int)), .val (.int .u8 ((0 : Nat) : Int)), .val (.int .u8 ((0 : Nat) : Int)), .val (.int .u8 ((0 : Nat) : Int))] []),
   mv_ 14 5,
   ⟨none, .s (.store 20 (.t 2) (.t 13)), none⟩,
   mv_ 3 14] [2, 3])
  (.ret))
 (.skip)))
 (.seq (.ops [mv_ 15 4,
  so_ 16 (.call 20 [.t 15]),
  ⟨none, .s (.store 20 (.t 2) (.t 16)), none⟩,
  po_ 3 (.mov (ci_ 0))] [2, 3])
 (.ret)))
def BkZ : A3d := .seq (.ops [so_ 1 (.box (.t 0)),
  so_ 2 (.alloc (.arr 20 1 [.val (.int .u8 ((0 : Nat) : Int)), .val (.int .u8 ((0 : Nat) : Int)), .val (.int .u8 ((0 : Nat) : Int)), .val (.int .u8 ((0 : Nat) : Int)), .val (.int .u8 ((0 : Nat) : Int)), .val (.int .u8 ((0 : Nat) : Int)), .val (.int .u8 ((0 : Nat) : Int)), .val (.int .u8 ((0 : Nat) : Int)), .val (.int .u8 ((0 : Nat) : Int)), .val (.int .u8 ((0 : Nat) : Int)), .val (.int .u8 ((0 : Nat) : Int)), .val (.int .u8 ((0 : Nat) : Int)), .val (.int .u8 ((0 : Nat) : Int)), .val (.int .u8 ((0 : Nat) : Int)), .val (.int .u8 ((0 : Nat) : Int)), .val (.int .u8 ((0 : Nat) : Int)), .val (.int .u8 ((0 : Nat) : Int)), .val (.int .u8 ((0 : Nat) : Int)), .val (.int .u8 ((0 : Nat) : Int)), .val (.int .u8 ((0 : Nat) : Int))])),
  po_ 3 (.mov (ci_ 0))] [1, 2])
 BgA
def BkM : List VR := [.cell 2 true 20, .tmp 3]
theorem Bof : Tryz.f11.body.bind (trC Tryz.prog Tryz.f11.ntmps) = some (er BkZ) := by kernel_rfl
theorem Bp7 : trR Tryz.prog Tryz.f11.results.toList = some BkM := by kernel_rfl
def Bio := A3a BgA.eq_1
def BlN := A3a BkZ.eq_1
theorem Beb {K : TV → Prop} {e : Env} {H : List Ob} : res BkM e H K = res [.cell 2 true 20, .tmp 3] e H K := A29 rfl
def BnS := A7f 17 Tryz.func11 Bof Bp7 rfl

def Bb2 : A3d := .seq (.seq (.ops [mv_ 13 5,
  mv_ 14 0,
  po_ 15 (.lenV (.t 14)),
  po_ 16 (.bin 3 .lss (.t 13) (.t 15)),
  mv_ 17 16,
  ⟨some 18, .p (.mov (.t 0)), some ⟨17, true⟩⟩,
  ⟨some 19, .p (.mov (.t 5)), some ⟨17, true⟩⟩,
  ⟨some 20, .p (.idxA 1 (.t 18) (.t 19)), some ⟨17, true⟩⟩,
  ⟨some 21, .p (.load false 1 (.t 20)), some ⟨17, true⟩⟩,
  ⟨some 22, .p (.bin 5 .neq (.t 21) (.c (.int .u8 ((0 : Nat) : Int)))), some ⟨17, true⟩⟩,
  po_ 23 (.pick (.t 17) (.t 22) (.c (.bool false)))] [0, 2, 4, 5, 23])
 (.cond (.t 23)
 (.skip)
 (.exit 2)))
 (.block 3 (.ops [mv_ 24 5,
  po_ 25 (.bin 3 .add (.t 24) (ci_ 1)),
  mv_ 5 25] [0, 2, 4, 5]))
def BbD : A3d := .seq (.ops [po_ 38 (.load true 2 (.t 6)),
  so_ 39 (.call 10 [.t 38]),
  mv_ 37 39,
  po_ 40 (.ext 0 (.t 37)),
  po_ 41 (.ext 1 (.t 37)),
  mv_ 7 40,
  mv_ 8 41] [0, 2, 4, 6, 7, 8])
 (.seq (.ops [mv_ 42 8,
  po_ 43 (.bin 3 .eql (.t 42) (ci_ 0)),
  mv_ 44 43,
  ⟨some 45, .p (.mov (.t 7)), some ⟨44, true⟩⟩,
  ⟨some 46, .p (.b2s (.t 45)), some ⟨44, true⟩⟩,
  ⟨some 47, .p (.mov (.t 0)), some ⟨44, true⟩⟩,
  ⟨some 48, .p (.b2s (.t 47)), some ⟨44, true⟩⟩,
  ⟨some 49, .p (.bin 9 .eql (.t 46) (.t 48)), some ⟨44, true⟩⟩,
  po_ 50 (.pick (.t 44) (.t 49) (.c (.bool false)))] [0, 2, 4, 6, 50])
 (.cond (.t 50)
 (.seq (.ops [po_ 51 (.load true 2 (.t 6)),
   ⟨none, .s (.store 2 (.t 2) (.t 51)), none⟩,
   po_ 3 (.mov (.c (.bool true)))] [2, 3])
  (.ret))
 (.skip)))
def BbZ : A3d := .seq (.ops [mv_ 31 4,
  mv_ 32 0,
  mv_ 33 5,
  po_ 34 (.bin 3 .add (.t 33) (ci_ 1)),
  po_ 35 (.slV 1 (.t 32) (some (.t 34)) none),
  ⟨some 36, .p (.build [.val (.int .i64 ((0 : Nat) : Int)), .val (.slice none 0 0)] [1, 1] [⟨0, .t 31⟩, ⟨1, .t 35⟩]), none⟩,
  so_ 6 (.alloc (.agg [.val (.int .i64 ((0 : Nat) : Int)), .val (.slice none 0 0)])),
  ⟨none, .s (.store 2 (.t 6) (.t 36)), none⟩] [0, 2, 4, 6])
 BbD
def BbO : A3d := .seq (.seq (.ops [mv_ 26 5,
  mv_ 27 0,
  po_ 28 (.lenV (.t 27)),
  po_ 29 (.bin 3 .geq (.t 26) (.t 28))] [0, 2, 4, 5, 29])
 (.cond (.t 29)
 (.seq (.ops [po_ 30 (.build [.val (.int .i64 ((0 : Nat) : Int)), .val (.slice none 0 0)] [1, 1] []),
   ⟨none, .s (.store 2 (.t 2) (.t 30)), none⟩,
   po_ 3 (.mov (.c (.bool false)))] [2, 3])
  (.ret))
 (.skip)))
 BbZ
def BbN : A3d := .seq (.block 2 (.loop [0, 2, 4, 5] Bb2))
 BbO
def BbM : A3d := .ops [mv_ 11 4,
  po_ 12 (.bin 3 .add (.t 11) (ci_ 1)),
  mv_ 4 12] [0, 2, 4]
def BbI : A3d := .seq (.block 1 (.seq (.ops [po_ 5 (.mov (ci_ 0))] [0, 2, 4, 5])
 BbN))
 BbM
def Bb4 : A3d := .seq (.seq (.ops [mv_ 9 4,
  po_ 10 (.bin 3 .leq (.t 9) (ci_ 4))] [0, 2, 4, 10])
 (.cond (.t 10)
 (.skip)
 (.exit 0)))
 BbI
def BbW : A3d := .block 0 (.loop [0, 2, 4] Bb4)
def BaH : A3d := .seq (.ops [po_ 52 (.build [.val (.int .i64 ((0 : Nat) : Int)), .val (.slice none 0 0)] [1, 1] []),
  ⟨none, .s (.store 2 (.t 2) (.t 52)), none⟩,
  po_ 3 (.mov (.c (.bool false)))] [2, 3])
 (.ret)
def BaW : A3d := .seq (.seq (.ops [po_ 4 (.mov (ci_ 1))] [0, 2, 4])
 BbW)
 BaH
def Be2 : A3d := .seq (.ops [so_ 2 (.alloc (.agg [.val (.int .i64 ((0 : Nat) : Int)), .val (.slice none 0 0)])),
  po_ 3 (.mov (.c (.bool false)))] [0, 2])
 BaW
def Bfr : List VR := [.cell 2 true 2, .tmp 3]
theorem BjJ : Tryz.f22.body.bind (trC Tryz.prog Tryz.f22.ntmps) = some (er Be2) := by kernel_rfl
theorem BjE : trR Tryz.prog Tryz.f22.results.toList = some Bfr := by kernel_rfl
def A7D := A3a Bb2.eq_1
def BfG := A3a BbD.eq_1
def Bfv := A3a BbZ.eq_1
def A9E := A3a BbO.eq_1
def BeV := A3a BbN.eq_1
def A9N := A3a BbM.eq_1
def Be7 := A3a BbI.eq_1
def A9Q := A3a Bb4.eq_1
def Bfh := A3a BbW.eq_1
def Bey := A3a BaH.eq_1
def BdW := A3a BaW.eq_1
def Bhh := A3a Be2.eq_1
theorem A9b {K : TV → Prop} {e : Env} {H : List Ob} : res Bfr e H K = res [.cell 2 true 2, .tmp 3] e H K := A29 rfl
def Bik := A7f 53 Tryz.func22 BjJ BjE rfl

def BdA : A3d := .seq (.ops [po_ 7 (.bin 3 .eql (.t 3) (ci_ 2)),
  mv_ 6 7] [3, 6])
 (.cond (.t 6)
 (.seq (.ops [po_ 2 (.mov (.c (.string (str [116, 114, 101, 101]))))] [2])
  (.ret))
 (.seq (.ops [po_ 9 (.bin 3 .eql (.t 3) (ci_ 3)),
   mv_ 8 9] [3, 8])
  (.cond (.t 8)
  (.seq (.ops [po_ 2 (.mov (.c (.string (str [98, 108, 111, 98]))))] [2])
   (.ret))
  (.seq (.ops [po_ 11 (.bin 3 .eql (.t 3) (ci_ 4)),
    mv_ 10 11] [10])
   (.cond (.t 10)
   (.seq (.ops [po_ 2 (.mov (.c (.string (str [116, 97, 103]))))] [2])
    (.ret))
   (.skip))))))
def BdH : A3d := .seq (.seq (.ops [mv_ 3 0] [3])
 (.block 0 (.seq (.ops [po_ 5 (.bin 3 .eql (.t 3) (ci_ 1)),
  mv_ 4 5] [3, 4])
 (.cond (.t 4)
 (.seq (.ops [po_ 2 (.mov (.c (.string (str [99, 111, 109, 109, 105, 116]))))] [2])
  (.ret))
 BdA))))
 (.seq (.ops [po_ 2 (.mov (.c (.string (str []))))] [2])
 (.ret))
def Bhf : A3d := .seq (.ops [po_ 2 (.mov (.c (.string (str []))))] [0])
 BdH
def BhC : List VR := [.tmp 2]
theorem Blr : Tryz.f18.body.bind (trC Tryz.prog Tryz.f18.ntmps) = some (er Bhf) := by kernel_rfl
theorem BlU : trR Tryz.prog Tryz.f18.results.toList = some BhC := by kernel_rfl
def BgJ := A3a BdA.eq_1
def BgB := A3a BdH.eq_1
def BiV := A3a Bhf.eq_1
theorem Bja {K : TV → Prop} {e : Env} {H : List Ob} : res BhC e H K = res [.tmp 2] e H K := A29 rfl
def A88 := (And.intro (And.intro @BgJ @BgB) (And.intro @BiV @Bja))
def Bk3 := A7f 12 Tryz.func18 Blr BlU rfl

def Bdy : A3d := .seq (.draw 5 [mv_ 13 0,
  mv_ 14 7,
  po_ 15 (.slV 1 (.t 13) none (some (.t 14))),
  mv_ 16 0,
  mv_ 17 7,
  mv_ 18 1,
  po_ 19 (.lenV (.t 18)),
  po_ 20 (.bin 3 .add (.t 17) (.t 19)),
  po_ 21 (.slV 1 (.t 16) (some (.t 20)) none),
  mv_ 4 15,
  mv_ 5 21,
  po_ 6 (.mov (.c (.bool true)))] [4, 5, 6])
 (.ret)
def BdB : A3d := .seq (.ops [mv_ 11 7,
  po_ 12 (.bin 3 .geq (.t 11) (ci_ 0))] [0, 1, 7, 12])
 (.cond (.t 12)
 Bdy
 (.skip))
def Bdw : A3d := .seq (.seq (.ops [mv_ 8 0,
  mv_ 9 1,
  so_ 10 (.call 43 [.t 8, .t 9]),
  mv_ 7 10] [0, 1, 7])
 BdB)
 (.seq (.ops [mv_ 22 0,
  mv_ 4 22,
  po_ 5 (.mov (.c (.slice none 0 0))),
  po_ 6 (.mov (.c (.bool false)))] [4, 5, 6])
 (.ret))
def BhX : A3d := .seq (.ops [po_ 4 (.mov (.c (.slice none 0 0))),
  po_ 5 (.mov (.c (.slice none 0 0))),
  po_ 6 (.mov (.c (.bool false)))] [0, 1])
 Bdw
def BhJ : List VR := [.tmp 4, .tmp 5, .tmp 6]
theorem BlS : Tryz.f32.body.bind (trC Tryz.prog Tryz.f32.ntmps) = some (er BhX) := by kernel_rfl
theorem Blq : trR Tryz.prog Tryz.f32.results.toList = some BhJ := by kernel_rfl
def BgT := A3a Bdy.eq_1
def Bg0 := A3a BdB.eq_1
def BgU := A3a Bdw.eq_1
def BjH := A3a BhX.eq_1
theorem Bi5 {K : TV → Prop} {e : Env} {H : List Ob} : res BhJ e H K = res [.tmp 4, .tmp 5, .tmp 6] e H K := A29 rfl
def Bev := (And.intro (And.intro (And.intro @BgT @Bg0) (And.intro @BgU @BjH)) @Bi5)
def BkL := A7f 23 Tryz.func32 BlS Blq rfl

def Bff : A3d := .seq (.ops [po_ 2 (.mov (.c (.slice none 0 0)))] [0])
 (.seq (.seq (.ops [mv_ 3 0,
  so_ 4 (.eqS (.t 3) false)] [0, 4])
 (.cond (.t 4)
 (.seq (.ops [po_ 2 (.mov (.c (.slice none 0 0)))] [2])
  (.ret))
 (.skip)))
 (.seq (.ops [so_ 5 (.bslice 1 0 (.val (.int .u8 ((0 : Nat) : Int))) []),
  mv_ 6 0,
  so_ 7 (.app 1 1 5 (.t 5) (.t 6)),
  mv_ 2 7] [2])
 (.ret)))
def Be9 : List VR := [.tmp 2]
theorem Bju : Tryz.f35.body.bind (trC Tryz.prog Tryz.f35.ntmps) = some (er Bff) := by kernel_rfl
theorem Bjr : trR Tryz.prog Tryz.f35.results.toList = some Be9 := by kernel_rfl
def BhT := A3a Bff.eq_1
theorem Bhg {K : TV → Prop} {e : Env} {H : List Ob} : res Be9 e H K = res [.tmp 2] e H K := A29 rfl
def A8X := (And.intro @BhT @Bhg)
def Bh0 := A7f 8 Tryz.func35 Bju Bjr rfl


def BbP : A3d := .seq (.ops [mv_ 76 0,
  mv_ 77 8,
  po_ 78 (.bin 3 .add (.t 77) (ci_ 1)),
  mv_ 79 9,
  po_ 80 (.slV 1 (.t 76) (some (.t 78)) (some (.t 79))),
  mv_ 81 6,
  so_ 82 (.call 52 [.t 80, .t 81]),
  mv_ 11 82] [0, 1, 5, 6, 7, 8, 9, 10, 11, 12])
 (.seq (.seq (.ops [mv_ 83 11,
  po_ 84 (.bin 3 .lss (.t 83) (ci_ 0))] [0, 1, 5, 6, 7, 8, 9, 10, 11, 12, 84])
 (.cond (.t 84)
 (.seq (.ops [po_ 4 (.mov (.c (.int .i64 (-1))))] [4])
  (.ret))
 (.skip)))
 (.ops [mv_ 85 8,
  mv_ 86 11,
  po_ 87 (.bin 3 .add (.t 86) (ci_ 1)),
  po_ 88 (.bin 3 .add (.t 85) (.t 87)),
  mv_ 8 88] [0, 1, 5, 6, 7, 8, 9, 10, 12]))
def BbL : A3d := .cond (.t 75)
 BbP
 (.skip)
def BbK : A3d := .seq (.dead)
 (.seq (.seq (.ops [mv_ 120 12,
  po_ 121 (.bin 3 .geq (.t 120) (ci_ 0))] [8, 12, 121])
 (.cond (.t 121)
 (.seq (.ops [mv_ 122 12,
   mv_ 123 8,
   po_ 124 (.bin 3 .add (.t 122) (.t 123)),
   mv_ 4 124] [4])
  (.ret))
 (.skip)))
 (.seq (.ops [po_ 4 (.mov (.c (.int .i64 (-1))))] [4])
 (.ret)))
def BbH : A3d := .seq (.ops [mv_ 109 8,
  po_ 110 (.bin 3 .add (.t 109) (ci_ 1)),
  mv_ 8 110] [0, 1, 5, 6, 7, 8, 9, 10, 12])
 (.seq (.ops [mv_ 111 10,
  mv_ 112 8,
  so_ 113 (.call 55 [.t 112]),
  po_ 114 (.bin 3 .gtr (.t 111) (.t 113))] [0, 1, 5, 6, 7, 8, 9, 10, 12, 114])
 (.cond (.t 114)
 BbK
 (.skip)))
def BbV : A3d := .seq (.ops [mv_ 107 10,
  po_ 108 (.bin 3 .add (.t 107) (ci_ 1)),
  mv_ 10 108] [0, 1, 5, 6, 7, 8, 9, 10, 12])
 BbH
def BbX : A3d := .seq (.seq (.ops [mv_ 89 0,
  mv_ 90 8,
  po_ 91 (.bin 3 .add (.t 90) (ci_ 1)),
  po_ 92 (.idxA 1 (.t 89) (.t 91)),
  po_ 93 (.load false 1 (.t 92)),
  mv_ 94 7,
  po_ 95 (.bin 5 .eql (.t 93) (.t 94)),
  mv_ 96 95,
  ⟨some 97, .p (.mov (.t 0)), some ⟨96, true⟩⟩,
  ⟨some 98, .p (.mov (.t 8)), some ⟨96, true⟩⟩,
  ⟨some 99, .p (.mov (.t 8)), some ⟨96, true⟩⟩,
  ⟨some 100, .p (.mov (.t 5)), some ⟨96, true⟩⟩,
  ⟨some 101, .p (.bin 3 .add (.t 99) (.t 100)), some ⟨96, true⟩⟩,
  ⟨some 102, .p (.slV 1 (.t 97) (some (.t 98)) (some (.t 101))), some ⟨96, true⟩⟩,
  ⟨some 103, .p (.mov (.t 1)), some ⟨96, true⟩⟩,
  ⟨some 104, .s (.call 53 [.t 102, .t 103]), some ⟨96, true⟩⟩,
  po_ 105 (.pick (.t 96) (.t 104) (.c (.bool false)))] [0, 1, 5, 6, 7, 8, 9, 10, 12, 105])
 (.cond (.t 105)
 (.seq (.ops [mv_ 106 8,
   mv_ 4 106] [4])
  (.ret))
 (.skip)))
 BbV
def Bb6 : A3d := .block 2 (.seq (.seq (.ops [mv_ 70 0,
  mv_ 71 8,
  po_ 72 (.idxA 1 (.t 70) (.t 71)),
  po_ 73 (.load false 1 (.t 72)),
  mv_ 74 6,
  po_ 75 (.bin 5 .neq (.t 73) (.t 74))] [0, 1, 5, 6, 7, 8, 9, 10, 12, 75])
 BbL)
 BbX)
def BbJ : A3d := .seq (.seq (.ops [mv_ 67 8,
  mv_ 68 9,
  po_ 69 (.bin 3 .lss (.t 67) (.t 68))] [0, 1, 5, 6, 7, 8, 9, 10, 12, 69])
 (.cond (.t 69)
 (.skip)
 (.exit 1)))
 Bb6
def BbR : A3d := .seq (.ops [po_ 4 (.mov (.c (.int .i64 (-1))))] [4])
 (.ret)
def Bbc : A3d := .seq (.block 1 (.loop [0, 1, 5, 6, 7, 8, 9, 10, 12] BbJ))
 BbR
def Bau : A3d := .seq (.ops [po_ 10 (.mov (ci_ 0))] [0, 1, 5, 6, 7, 8, 9, 10, 12])
 Bbc
def Bam : A3d := .seq (.ops [mv_ 62 0,
  po_ 63 (.lenV (.t 62)),
  mv_ 64 5,
  po_ 65 (.bin 3 .sub (.t 63) (.t 64)),
  po_ 66 (.bin 3 .add (.t 65) (ci_ 1)),
  mv_ 9 66] [0, 1, 5, 6, 7, 8, 9, 12])
 Bau
def BaC : A3d := .seq (.ops [po_ 8 (.mov (ci_ 0))] [0, 1, 5, 6, 7, 8, 12])
 Bam
def Bax : A3d := .seq (.ops [mv_ 59 1,
  po_ 60 (.idxA 1 (.t 59) (ci_ 1)),
  po_ 61 (.load false 1 (.t 60)),
  mv_ 7 61] [0, 1, 5, 6, 7, 12])
 BaC
def Bap : A3d := .seq (.ops [mv_ 56 1,
  po_ 57 (.idxA 1 (.t 56) (ci_ 0)),
  po_ 58 (.load false 1 (.t 57)),
  mv_ 6 58] [0, 1, 5, 6, 12])
 Bax
def BaE : A3d := .seq (.seq (.ops [mv_ 50 0,
  po_ 51 (.lenV (.t 50)),
  po_ 52 (.bin 3 .leq (.t 51) (ci_ 64))] [0, 1, 4, 5, 12, 52])
 (.cond (.t 52)
 (.seq (.dead)
  (.ret))
 (.skip)))
 Bap
def BaG : A3d := .cond (.t 46)
 BaE
 (.skip)
def Bbe : A3d := .seq (.ops [mv_ 47 5,
  po_ 48 (.load false 1 (.g 2)),
  po_ 49 (.bin 3 .leq (.t 47) (.t 48)),
  mv_ 46 49] [0, 1, 4, 5, 12, 46])
 BaG
def BaJ : A3d := .cond (.t 41)
 (.seq (.ops [po_ 4 (.mov (.c (.int .i64 (-1))))] [4])
  (.ret))
 Bbe
def Bad : A3d := .seq (.ops [mv_ 42 5,
  mv_ 43 0,
  po_ 44 (.lenV (.t 43)),
  po_ 45 (.bin 3 .gtr (.t 42) (.t 44)),
  mv_ 41 45] [0, 1, 4, 5, 12, 41])
 BaJ
def Bbf : A3d := .cond (.t 33)
 (.seq (.seq (.ops [mv_ 38 1,
   mv_ 39 0,
   so_ 40 (.call 53 [.t 38, .t 39])] [40])
  (.cond (.t 40)
  (.seq (.ops [po_ 4 (.mov (ci_ 0))] [4])
   (.ret))
  (.skip)))
  (.seq (.ops [po_ 4 (.mov (.c (.int .i64 (-1))))] [4])
  (.ret)))
 Bad
def Baq : A3d := .seq (.ops [mv_ 34 5,
  mv_ 35 0,
  po_ 36 (.lenV (.t 35)),
  po_ 37 (.bin 3 .eql (.t 34) (.t 36)),
  mv_ 33 37] [0, 1, 4, 5, 12, 33])
 Bbf
def Ba8 : A3d := .cond (.t 25)
 (.seq (.ops [mv_ 28 0,
   mv_ 29 1,
   po_ 30 (.idxA 1 (.t 29) (ci_ 0)),
   po_ 31 (.load false 1 (.t 30)),
   so_ 32 (.call 52 [.t 28, .t 31]),
   mv_ 4 32] [4])
  (.ret))
 Baq
def BaB : A3d := .seq (.ops [mv_ 26 5,
  po_ 27 (.bin 3 .eql (.t 26) (ci_ 1)),
  mv_ 25 27] [0, 1, 4, 5, 12, 25])
 Ba8
def Bas : A3d := .cond (.t 22)
 (.seq (.ops [po_ 4 (.mov (ci_ 0))] [4])
  (.ret))
 BaB
def BaQ : A3d := .seq (.ops [mv_ 145 0,
  mv_ 146 15,
  po_ 147 (.bin 3 .add (.t 146) (ci_ 1)),
  mv_ 148 17,
  po_ 149 (.slV 1 (.t 145) (some (.t 147)) (some (.t 148))),
  mv_ 150 13,
  so_ 151 (.call 52 [.t 149, .t 150]),
  mv_ 18 151] [0, 1, 5, 13, 14, 15, 16, 17, 18])
 (.seq (.seq (.ops [mv_ 152 18,
  po_ 153 (.bin 3 .lss (.t 152) (ci_ 0))] [0, 1, 5, 13, 14, 15, 16, 17, 18, 153])
 (.cond (.t 153)
 (.exit 3)
 (.skip)))
 (.ops [mv_ 154 15,
  mv_ 155 18,
  po_ 156 (.bin 3 .add (.t 155) (ci_ 1)),
  po_ 157 (.bin 3 .add (.t 154) (.t 156)),
  mv_ 15 157] [0, 1, 5, 13, 14, 15, 16, 17]))
def BaO : A3d := .cond (.t 144)
 BaQ
 (.skip)
def Bac : A3d := .seq (.ops [mv_ 190 0,
  mv_ 191 15,
  po_ 192 (.slV 1 (.t 190) (some (.t 191)) none),
  mv_ 193 1,
  so_ 194 (.call 56 [.t 192, .t 193]),
  mv_ 19 194] [15, 19])
 (.seq (.seq (.ops [mv_ 195 19,
  po_ 196 (.bin 3 .lss (.t 195) (ci_ 0))] [15, 19, 196])
 (.cond (.t 196)
 (.seq (.ops [po_ 4 (.mov (.c (.int .i64 (-1))))] [4])
  (.ret))
 (.skip)))
 (.seq (.ops [mv_ 197 15,
  mv_ 198 19,
  po_ 199 (.bin 3 .add (.t 197) (.t 198)),
  mv_ 4 199] [4])
 (.ret)))
def BaY : A3d := .cond (.t 189)
 Bac
 (.skip)
def Bai : A3d := .seq (.ops [mv_ 180 16,
  mv_ 181 15,
  po_ 182 (.bin 3 .shr (.t 181) (.c (.int .u64 ((4 : Nat) : Int)))),
  po_ 183 (.bin 3 .add (ci_ 4) (.t 182)),
  po_ 184 (.bin 3 .geq (.t 180) (.t 183)),
  mv_ 185 184,
  ⟨some 186, .p (.mov (.t 15)), some ⟨185, true⟩⟩,
  ⟨some 187, .p (.mov (.t 17)), some ⟨185, true⟩⟩,
  ⟨some 188, .p (.bin 3 .lss (.t 186) (.t 187)), some ⟨185, true⟩⟩,
  po_ 189 (.pick (.t 185) (.t 188) (.c (.bool false)))] [0, 1, 5, 13, 14, 15, 16, 17, 189])
 BaY
def Bbg : A3d := .seq (.ops [mv_ 178 16,
  po_ 179 (.bin 3 .add (.t 178) (ci_ 1)),
  mv_ 16 179] [0, 1, 5, 13, 14, 15, 16, 17])
 Bai
def BaA : A3d := .seq (.ops [mv_ 176 15,
  po_ 177 (.bin 3 .add (.t 176) (ci_ 1)),
  mv_ 15 177] [0, 1, 5, 13, 14, 15, 16, 17])
 Bbg
def BaV : A3d := .seq (.seq (.ops [mv_ 158 0,
  mv_ 159 15,
  po_ 160 (.bin 3 .add (.t 159) (ci_ 1)),
  po_ 161 (.idxA 1 (.t 158) (.t 160)),
  po_ 162 (.load false 1 (.t 161)),
  mv_ 163 14,
  po_ 164 (.bin 5 .eql (.t 162) (.t 163)),
  mv_ 165 164,
  ⟨some 166, .p (.mov (.t 0)), some ⟨165, true⟩⟩,
  ⟨some 167, .p (.mov (.t 15)), some ⟨165, true⟩⟩,
  ⟨some 168, .p (.mov (.t 15)), some ⟨165, true⟩⟩,
  ⟨some 169, .p (.mov (.t 5)), some ⟨165, true⟩⟩,
  ⟨some 170, .p (.bin 3 .add (.t 168) (.t 169)), some ⟨165, true⟩⟩,
  ⟨some 171, .p (.slV 1 (.t 166) (some (.t 167)) (some (.t 170))), some ⟨165, true⟩⟩,
  ⟨some 172, .p (.mov (.t 1)), some ⟨165, true⟩⟩,
  ⟨some 173, .s (.call 53 [.t 171, .t 172]), some ⟨165, true⟩⟩,
  po_ 174 (.pick (.t 165) (.t 173) (.c (.bool false)))] [0, 1, 5, 13, 14, 15, 16, 17, 174])
 (.cond (.t 174)
 (.seq (.ops [mv_ 175 15,
   mv_ 4 175] [4])
  (.ret))
 (.skip)))
 BaA
def Baw : A3d := .block 4 (.seq (.seq (.ops [mv_ 139 0,
  mv_ 140 15,
  po_ 141 (.idxA 1 (.t 139) (.t 140)),
  po_ 142 (.load false 1 (.t 141)),
  mv_ 143 13,
  po_ 144 (.bin 5 .neq (.t 142) (.t 143))] [0, 1, 5, 13, 14, 15, 16, 17, 144])
 BaO)
 BaV)
def Ba5 : A3d := .seq (.seq (.ops [mv_ 136 15,
  mv_ 137 17,
  po_ 138 (.bin 3 .lss (.t 136) (.t 137))] [0, 1, 5, 13, 14, 15, 16, 17, 138])
 (.cond (.t 138)
 (.skip)
 (.exit 3)))
 Baw
def Bbd : A3d := .seq (.ops [po_ 4 (.mov (.c (.int .i64 (-1))))] [4])
 (.ret)
def Bbj : A3d := .seq (.block 3 (.loop [0, 1, 5, 13, 14, 15, 16, 17] Ba5))
 Bbd
def Baa : A3d := .seq (.ops [mv_ 131 0,
  po_ 132 (.lenV (.t 131)),
  mv_ 133 5,
  po_ 134 (.bin 3 .sub (.t 132) (.t 133)),
  po_ 135 (.bin 3 .add (.t 134) (ci_ 1)),
  mv_ 17 135] [0, 1, 5, 13, 14, 15, 16, 17])
 Bbj
def Ba7 : A3d := .seq (.ops [po_ 16 (.mov (ci_ 0))] [0, 1, 5, 13, 14, 15, 16])
 Baa
def BaI : A3d := .seq (.ops [po_ 15 (.mov (ci_ 0))] [0, 1, 5, 13, 14, 15])
 Ba7
def BaD : A3d := .seq (.ops [mv_ 128 1,
  po_ 129 (.idxA 1 (.t 128) (ci_ 1)),
  po_ 130 (.load false 1 (.t 129)),
  mv_ 14 130] [0, 1, 5, 13, 14])
 BaI
def Bak : A3d := .seq (.ops [mv_ 125 1,
  po_ 126 (.idxA 1 (.t 125) (ci_ 0)),
  po_ 127 (.load false 1 (.t 126)),
  mv_ 13 127] [0, 1, 5, 13])
 BaD
def BaF : A3d := .seq (.block 0 (.seq (.ops [mv_ 23 5,
  po_ 24 (.bin 3 .eql (.t 23) (ci_ 0)),
  mv_ 22 24] [0, 1, 4, 5, 12, 22])
 Bas))
 Bak
def Bab : A3d := .seq (.ops [mv_ 20 1,
  po_ 21 (.lenV (.t 20)),
  mv_ 5 21] [0, 1, 4, 5, 12])
 BaF
def BeX : A3d := .seq (.ops [po_ 4 (.mov (ci_ 0))] [0, 1, 4, 12])
 Bab
def BfB : List VR := [.tmp 4]
theorem Bj3 : Tryz.f43.body.bind (trC Tryz.prog Tryz.f43.ntmps) = some (er BeX) := by kernel_rfl
theorem BjP : trR Tryz.prog Tryz.f43.results.toList = some BfB := by kernel_rfl
def Bfd := A3a BbP.eq_1
def BfD := A3a BbL.eq_1
def Bfy := A3a BbK.eq_1
def BeS := A3a BbH.eq_1
def Bft := A3a BbV.eq_1
def Bfm := A3a BbX.eq_1
def Bfo := A3a Bb6.eq_1
def BeW := A3a BbJ.eq_1
def BeZ := A3a BbR.eq_1
def Bd5 := A3a Bbc.eq_1
def Bec := A3a Bau.eq_1
def Bef := A3a Bam.eq_1
def Ben := A3a BaC.eq_1
def BdT := A3a Bax.eq_1
def BeJ := A3a Bap.eq_1
def BdM := A3a BaE.eq_1
def Bep := A3a BaG.eq_1
def BeD := A3a Bbe.eq_1
def Ber := A3a BaJ.eq_1
def Bet := A3a Bad.eq_1
def Bed := A3a Bbf.eq_1
def Bd3 := A3a Baq.eq_1
def BeK := A3a Ba8.eq_1
def BeE := A3a BaB.eq_1
def Bd7 := A3a Bas.eq_1
def Bej := A3a BaQ.eq_1
def BdS := A3a BaO.eq_1
def Bd4 := A3a Bac.eq_1
def Bem := A3a BaY.eq_1
def BeM := A3a Bai.eq_1
def BeI := A3a Bbg.eq_1
def BdV := A3a BaA.eq_1
def BeP := A3a BaV.eq_1
def BdU := A3a Baw.eq_1
def Bes := A3a Ba5.eq_1
def Beu := A3a Bbd.eq_1
def BeH := A3a Bbj.eq_1
def Bd2 := A3a Baa.eq_1
def Beh := A3a Ba7.eq_1
def Bea := A3a BaI.eq_1
def BdO := A3a BaD.eq_1
def BdY := A3a Bak.eq_1
def Beg := A3a BaF.eq_1
def Bd9 := A3a Bab.eq_1
def Bhl := A3a BeX.eq_1
theorem Bhd {K : TV → Prop} {e : Env} {H : List Ob} : res BfB e H K = res [.tmp 4] e H K := A29 rfl
def BfH := (And.intro (And.intro (And.intro (And.intro (And.intro (And.intro @Bfd @BfD) (And.intro @Bfy @BeS)) (And.intro (And.intro @Bft @Bfm) (And.intro @Bfo @BeW))) (And.intro (And.intro (And.intro @BeZ @Bd5) (And.intro @Bec @Bef)) (And.intro (And.intro @Ben @BdT) (And.intro @BeJ @BdM)))) (And.intro (And.intro (And.intro (And.intro @Bep @BeD) (And.intro @Ber @Bet)) (And.intro (And.intro @Bed @Bd3) (And.intro @BeK @BeE))) (And.intro (And.intro (And.intro @Bd7 @Bej) (And.intro @BdS @Bd4)) (And.intro (And.intro @Bem @BeM) (And.intro @BeI @BdV))))) (And.intro (And.intro (And.intro (And.intro @BeP @BdU) (And.intro @Bes @Beu)) (And.intro (And.intro @BeH @Bd2) (And.intro @Beh @Bea))) (And.intro (And.intro (And.intro @BdO @BdY) (And.intro @Beg @Bd9)) (And.intro @Bhl @Bhd))))
def Bh2 := A7f 200 Tryz.func43 Bj3 BjP rfl

end Go.Proofs.YtmlompedpahkjaaGreatDoor


namespace Go.Proofs.YtmlompedpahkjaaGreatDoor
open Go.RowKit
variable [A4e]
set_option linter.unusedSectionVars false
set_option linter.unusedVariables false
set_option linter.unusedSimpArgs false

/-- A kind's name. -/
def A6a (k : Int) : Option (List UInt8) := if k = 1 then some [99, 111, 109, 109, 105, 116] else if k = 2 then some [116, 114, 101, 101] else if k = 3 then some [98, 108, 111, 98] else if k = 4 then some [116, 97, 103] else none
/-- An object with its header; or the error. -/
def A9O (k : Int) (d : List UInt8) : Except Nat (List UInt8) := match A6a k with
 | none => .error 20
 | some n => if d.length ≤ 100000 then .ok (n ++ 32 :: Lib.decDigits d.length ++ 0 :: d) else .error 11
theorem Bag {k : Int} {n : List UInt8} (h : A6a k = some n) : 1 ≤ k ∧ k ≤ 4 ∧ n.length ≤ 6 := by
 unfold A6a at h
 split at h
 ·cases h; simp; omega
 ·split at h
  ·cases h; simp; omega
  ·split at h
   ·cases h; simp; omega
   ·split at h
    ·cases h; simp; omega
    ·cases h
abbrev Bs6 (n : Int) : TV := .ifc 35 (i64 n)
section
variable [A3n]
theorem BmJ : A3H.tv = .arr 5 1 [ts [], ts [99, 111, 109, 109, 105, 116], ts [116, 114, 101, 101], ts [98, 108, 111, 98], ts [116, 97, 103]] := by rfl
theorem BpT (k : Int) (h1 : -9223372036854775808 ≤ k) (h2 : k ≤ 9223372036854775807) : A4p Tryz.prog 14 [i64 k] (fun r => (∀ n, A6a k = some n → r = .tup [ts n, tb true]) ∧ (A6a k = none → r = .tup [ts [], tb false])) := by
 refine A3p.toPureV (Bfe (by simp) ?_)
 by_cases c1 : k < 1
 ·have hn : A6a k = none := by unfold A6a; rw [if_neg (by omega), if_neg (by omega), if_neg (by omega), if_neg (by omega)]
  simp -dsimp (disch := first | assumption | omega | (simp only [A3b]; done) | (simp only [A3b]; omega)) only [↓A3g, A3c, A3e, A3f, eq_self, forall_const, Nat.reduceLT, Nat.reduceEqDiff, Nat.reduceSub, Nat.reduceMul, Nat.reduceMod, Nat.reduceDiv, Nat.reducePow, UInt8.reduceToNat, Int.reduceEq, Int.reduceLT, Int.reduceLE, ↓reduceIte, Nat.reduceAdd, Int.reduceToNat, reduceCtorEq, Nat.reduceLeDiff, ↓A75]
  rw [hn]
  simp
 by_cases c4 : k > 4
 ·have hn : A6a k = none := by unfold A6a; rw [if_neg (by omega), if_neg (by omega), if_neg (by omega), if_neg (by omega)]
  simp -dsimp (disch := first | assumption | omega | (simp only [A3b]; done) | (simp only [A3b]; omega)) only [↓A3g, A3c, A3e, A3f, eq_self, forall_const, Nat.reduceLT, Nat.reduceEqDiff, Nat.reduceSub, Nat.reduceMul, Nat.reduceMod, Nat.reduceDiv, Nat.reducePow, UInt8.reduceToNat, Int.reduceEq, Int.reduceLT, Int.reduceLE, ↓reduceIte, Nat.reduceAdd, Int.reduceToNat, reduceCtorEq, Nat.reduceLeDiff, ↓A75]
  rw [hn]
  simp
 obtain ⟨j, rfl⟩ : ∃ j : Nat, k = (j : Int) := ⟨k.toNat, by omega⟩
 have hk := A3n.k
 obtain h | h | h | h : j = 1 ∨ j = 2 ∨ j = 3 ∨ j = 4 := by omega
 all_goals
  subst h
  simp -dsimp (disch := first | assumption | omega | (simp only [A3b]; done) | (simp only [A3b]; omega)) only [↓A3g, A3c, A3e, A3f, eq_self, forall_const, Nat.reduceLT, Nat.reduceEqDiff, Nat.reduceSub, Nat.reduceMul, Nat.reduceMod, Nat.reduceDiv, Nat.reducePow, UInt8.reduceToNat, Int.reduceEq, Int.reduceLT, Int.reduceLE, ↓reduceIte, Nat.reduceAdd, Int.reduceToNat, reduceCtorEq, Nat.reduceLeDiff, ↓A75, hk, BmJ]
  simp [A6a]
end
end Go.Proofs.YtmlompedpahkjaaGreatDoor


namespace Go.Proofs.YtmlompedpahkjaaGreatDoor.Kit
open Go.RowKit

/-- Nothing that was there has turned; there may be more. -/
def A3o (w w' : World) : Prop := Below w.heap.size w w'

theorem A3o.refl (w : World) : A3o w w := Below.refl _ _
theorem A3o.trans {a b c : World} (h : A3o a b) (k : A3o b c) : A3o a c := Below.trans h (Below.mono k (Below.size h))
theorem A3o.drew {a b : World} (h : A3o a b) : A3o a b.drew := Below.drew h
theorem A3o.drewN {a b : World} (h : A3o a b) (n : Nat) : A3o a (b.drewN n) := Below.trans h ⟨rfl, rfl, rfl, Nat.le_refl _, fun _ _ => rfl⟩
theorem A3o.alloc {a b : World} (h : A3o a b) (o : Obj) : A3o a (b.alloc o) := Below.alloc h (Below.size h) o
theorem Below.drewN' {B : Nat} {a b : World} (n : Nat) (h : Below B a b) : Below B a (b.drewN n) := Below.trans h ⟨rfl, rfl, rfl, Nat.le_refl _, fun _ _ => rfl⟩
theorem A3o.cell {w w' : World} (h : A3o w w') {p : Addr} {v : Value} (hv : w.cell? p = some v) : w'.cell? p = some v := by
 rw [Below.cell h (World.block_lt_of_cell? w p hv)]; exact hv

/-- The slice's elements, from address 'a' on, are the bytes 'l'. -/
def Bs (w : World) (a : Option Addr) (l : List UInt8) : Prop :=
 ∀ j, j < l.length → ∃ b off, a = some ⟨b, off, none⟩ ∧ w.cell? ⟨b, off + j, none⟩ = some (.int .u8 (l.getD j 0).toNat)

theorem Bs.keep {w w' : World} {a : Option Addr} {l : List UInt8} (h : Bs w a l) (k : A3o w w') : Bs w' a l := fun j hj =>
 let ⟨b, off, e, hc⟩ := h j hj; ⟨b, off, e, k.cell hc⟩

theorem Bs.nil (w : World) (a : Option Addr) : Bs w a [] := fun j hj => absurd hj (by simp)

theorem BpC {α : Type} (l : List α) (k : Nat) (d : α) (h : k < l.length) : l.drop k = l.getD k d :: l.drop (k + 1) := by
 rw [List.drop_eq_getElem_cons h]; simp [List.getD, h]


theorem Bs.take {w : World} {a : Option Addr} {l : List UInt8} (h : Bs w a l) (n : Nat) : Bs w a (l.take n) := fun j hj => by
 have hj' : j < l.length := by simp at hj; omega
 have hjn : j < n := by simp at hj; omega
 obtain ⟨b, off, e, hc⟩ := h j hj'
 exact ⟨b, off, e, by rw [hc]; simp [List.getD, hjn]⟩

theorem Bs.drop {w : World} {b off : Nat} {l : List UInt8} (h : Bs w (some ⟨b, off, none⟩) l) (n : Nat) : Bs w (some ⟨b, off + n, none⟩) (l.drop n) := fun j hj => by
 have hj' : n + j < l.length := by simp at hj; omega
 obtain ⟨b', off', e, hc⟩ := h (n + j) hj'
 simp only [Option.some.injEq, Addr.mk.injEq, and_true] at e
 obtain ⟨rfl, rfl⟩ := e
 refine ⟨b, off + n, rfl, ?_⟩
 rw [Nat.add_assoc, hc]
 simp [List.getD]

/-- Bytes aS cells. -/
def bv (l : List UInt8) : List Value := l.map fun x => .int .u8 (x.toNat : Int)

@[simp] theorem A6e (l : List UInt8) : (bv l).length = l.length := by simp [bv]
theorem Bji (l : List UInt8) (j : Nat) (h : j < l.length) : (bv l)[j]? = some (.int .u8 ((l.getD j 0).toNat : Int)) := by simp [bv, List.getD, h]
theorem Be4 (l : List UInt8) : ∀ v ∈ bv l, v.oneCell' = true := by
 intro v hv; simp only [bv, List.mem_map] at hv; obtain ⟨x, _, rfl⟩ := hv; rfl

/-- A whole block of bytes reads so. -/
theorem Bs.of_block {w : World} {g : Nat} {cs : List Value} {t : TypeId} {fr : Nat × Nat} (hg : w.heap[g]? = some (.cells cs.toArray t fr)) {off : Nat} {l : List UInt8}
  (h : ∀ j, j < l.length → cs[off + j]? = some (.int .u8 ((l.getD j 0).toNat : Int))) : Bs w (some ⟨g, off, none⟩) l := fun j hj =>
 ⟨g, off, rfl, by rw [cell_of_row w g (off + j) _ t fr hg]; simpa using h j hj⟩

theorem Bs.src {w : World} {a : Option Addr} {l : List UInt8} (h : Bs w a l) (hp : 0 < (bv l).length) : ∃ ad, a = some ad ∧ ∀ j v, (bv l)[j]? = some v → w.cell? (ad.add j) = some v := by
 obtain ⟨b, off, rfl, _⟩ := h 0 (by simpa using hp)
 refine ⟨_, rfl, fun j v hv => ?_⟩
 have hj : j < l.length := by
  rcases Nat.lt_or_ge j l.length with h1 | h1
  ·exact h1
  ·rw [List.getElem?_eq_none (by simpa using h1)] at hv; cases hv
 obtain ⟨b', off', e, hc⟩ := h j hj
 simp only [Option.some.injEq, Addr.mk.injEq, and_true] at e
 obtain ⟨rfl, rfl⟩ := e
 rw [Bji l j hj] at hv
 rw [show (⟨b, off, none⟩ : Addr).add j = ⟨b, off + j, none⟩ from by simp [Addr.add], hc]; exact hv

theorem BlZ (x : UInt8) : (x.toNat : Int) < 256 := by have := UInt8.toNat_lt x; omega

theorem Bs.at {w : World} {a : Option Addr} {l : List UInt8} (h : Bs w a l) {j : Nat} (hj : j < l.length) :
  ∃ b off x, a = some ⟨b, off, none⟩ ∧ w.cell? ⟨b, off + j, none⟩ = some (.int .u8 (x.toNat : Int)) ∧ (x.toNat : Int) < 256 ∧ Hid (x = l.getD j 0) := by
 obtain ⟨b, off, e, hc⟩ := h j hj
 exact ⟨b, off, l.getD j 0, e, hc, BlZ _, rfl⟩

theorem Bs.at' {w : World} {b off : Nat} {l : List UInt8} (h : Bs w (some ⟨b, off, none⟩) l) {j : Nat} (hj : j < l.length) :
  ∃ x, w.cell? ⟨b, off + j, none⟩ = some (.int .u8 (x.toNat : Int)) ∧ (x.toNat : Int) < 256 ∧ Hid (x = l.getD j 0) := by
 obtain ⟨b', off', e, hc⟩ := h j hj
 simp only [Option.some.injEq, Addr.mk.injEq, and_true] at e
 obtain ⟨rfl, rfl⟩ := e
 exact ⟨l.getD j 0, hc, BlZ _, rfl⟩

theorem A6Y {P : Program} {f : FuncId} {args : Array Value} {w : World} {n : Nat} {v : Value}
  (h : Calls P f args (w.drewN n) fun e w' => e = .returned v ∧ w.drewN n = w') : Calls P f args (w.drewN n) fun e w'' => e = .returned v ∧ ∃ m, w'' = w.drewN m :=
 h.mono fun _ _ ⟨he, hm⟩ => ⟨he, n, hm.symm⟩

theorem BpN {a w : World} {row : Option Nat} (h : a.grownBy w row) : a.grownBy w.drew row := ⟨h.os, h.tape, h.output, h.size, h.block⟩
theorem BkY {a w : World} {g : Nat} (h : a.grownBy w (some g)) {p : Addr} (hp : p.block = g ∨ a.heap.size ≤ p.block) (u : Value) : a.grownBy (w.setCell p u) (some g) :=
 ⟨h.os, h.tape, h.output, by simpa [World.setCell] using h.size, fun i hi hne => (Below.heap_setCell w p u i (by
  rintro rfl
  rcases hp with hp | hp
  ·exact hne (by rw [hp])
  ·omega)).trans (h.block i hi hne)⟩

end Go.Proofs.YtmlompedpahkjaaGreatDoor.Kit


namespace Go.Proofs.YtmlompedpahkjaaGreatDoor.Kit
open Go.RowKit

def rot (x n : Nat) : Nat := (x * 2 ^ n % 4294967296) ||| (x / 2 ^ (32 - n))
def sf1 (b c d : Nat) : Nat := (b &&& c) ||| ((4294967295 ^^^ b) &&& d)
def sf2 (b c d : Nat) : Nat := (b ^^^ c) ^^^ d
def sf3 (b c d : Nat) : Nat := ((b &&& c) ||| (b &&& d)) ||| (c &&& d)
def sff (i b c d : Nat) : Nat := if i < 20 then sf1 b c d else if i < 40 then sf2 b c d else if i < 60 then sf3 b c d else sf2 b c d
def skk (i : Nat) : Nat := if i < 20 then 1518500249 else if i < 40 then 1859775393 else if i < 60 then 2400959708 else 3395469782

theorem Bcp {a b : Nat} (ha : a < 4294967296) (hb : b < 4294967296) : a ||| b < 4294967296 := Nat.or_lt_two_pow (n := 32) ha hb
theorem A4Z {a b : Nat} (ha : a < 4294967296) : a &&& b < 4294967296 := Nat.lt_of_le_of_lt Nat.and_le_left ha
theorem A31 {a b : Nat} (ha : a < 4294967296) (hb : b < 4294967296) : a ^^^ b < 4294967296 := Nat.xor_lt_two_pow (n := 32) ha hb

theorem Bn6 {x : Nat} (n : Nat) (hx : x < 4294967296) : rot x n < 4294967296 :=
 Bcp (Nat.mod_lt _ (by omega)) (Nat.lt_of_le_of_lt (Nat.div_le_self _ _) hx)
theorem BxH {b c d : Nat} (hb : b < 4294967296) : sf1 b c d < 4294967296 := Bcp (A4Z hb) (A4Z (A31 (by omega) hb))
theorem Buk {b c d : Nat} (hb : b < 4294967296) (hc : c < 4294967296) (hd : d < 4294967296) : sf2 b c d < 4294967296 := A31 (A31 hb hc) hd
theorem Byf {b c d : Nat} (hb : b < 4294967296) (hc : c < 4294967296) : sf3 b c d < 4294967296 := Bcp (Bcp (A4Z hb) (A4Z hb)) (A4Z hc)
theorem BxR (i : Nat) {b c d : Nat} (hb : b < 4294967296) (hc : c < 4294967296) (hd : d < 4294967296) : sff i b c d < 4294967296 := by
 unfold sff; split
 ·exact BxH hb
 ·split
  ·exact Buk hb hc hd
  ·split
   ·exact Byf hb hc
   ·exact Buk hb hc hd

/-- Four bytes. -/
def BqE (p : List UInt8) (i : Nat) : Nat := (p.getD i 0).toNat * 16777216 + (p.getD (i + 1) 0).toNat * 65536 + (p.getD (i + 2) 0).toNat * 256 + (p.getD (i + 3) 0).toNat
theorem Bu4 (p : List UInt8) (i : Nat) : BqE p i < 4294967296 := by
 unfold BqE
 have := UInt8.toNat_lt (p.getD i 0); have := UInt8.toNat_lt (p.getD (i + 1) 0); have := UInt8.toNat_lt (p.getD (i + 2) 0); have := UInt8.toNat_lt (p.getD (i + 3) 0)
 omega

theorem BjU {L : List Nat} {M : Nat} (h : ∀ x ∈ L, x < M) (h0 : 0 < M) (j : Nat) : L.getD j 0 < M := by
 rw [List.getD_eq_getElem?_getD]
 cases e : L[j]? with
 | none => exact h0
 | some x => exact h x (List.mem_of_getElem? e)

/-- The schedule's first i words. -/
def BjQ (p : List UInt8) (L : List Nat) (i : Nat) : Nat :=
 if i < 16 then BqE p (4 * i) else rot (((L.getD (i - 3) 0 ^^^ L.getD (i - 8) 0) ^^^ L.getD (i - 14) 0) ^^^ L.getD (i - 16) 0) 1
def wl (p : List UInt8) : Nat → List Nat
 | 0 => []
 | i + 1 => wl p i ++ [BjQ p (wl p i) i]
@[simp] theorem A99 (p : List UInt8) (i : Nat) : (wl p i).length = i := by induction i with
 | zero => rfl
 | succ i ih => simp [wl, ih]
theorem BAN (p : List UInt8) (i : Nat) : ∀ x ∈ wl p i, x < 4294967296 := by
 induction i with
 | zero => intro x hx; cases hx
 | succ i ih =>
  intro x hx
  simp only [wl, List.mem_append, List.mem_singleton] at hx
  rcases hx with hx | rfl
  ·exact ih x hx
  ·have hg : ∀ j, (wl p i).getD j 0 < 4294967296 := BjU ih (by omega)
   unfold BjQ; split
   ·exact Bu4 _ _
   ·exact Bn6 _ (A31 (A31 (A31 (hg _) (hg _)) (hg _)) (hg _))
theorem A51 (p : List UInt8) (i j : Nat) : (wl p i).getD j 0 < 4294967296 := BjU (BAN p i) (by omega) j

/-- Five words. -/
structure V5 where
 a : Nat
 b : Nat
 c : Nat
 d : Nat
 e : Nat
def V5.ok (v : V5) : Prop := v.a < 4294967296 ∧ v.b < 4294967296 ∧ v.c < 4294967296 ∧ v.d < 4294967296 ∧ v.e < 4294967296
def V5.list (v : V5) : List Nat := [v.a, v.b, v.c, v.d, v.e]
def A6o (L : List Nat) : List Value := L.map fun (n : Nat) => Value.int .u32 (n : Int)
@[simp] theorem A9e (L : List Nat) : (A6o L).length = L.length := by simp [A6o]

def BfK (n : Nat) : List Value := List.replicate n (.int .u32 0)
theorem Bkr (L : List Nat) (j : Nat) (h : j < L.length) : (A6o L)[j]? = some (.int .u32 ((L.getD j 0 : Nat) : Int)) := by simp [A6o, List.getD, h]
theorem BlG (p : List UInt8) (k : Nat) (hk : k < 80) : (A6o (wl p k) ++ BfK (80 - k))[k]? = some (.int .u32 0) := by
 rw [List.getElem?_append_right (by simp), A9e, A99, Nat.sub_self, BfK, List.getElem?_replicate, if_pos (by omega)]
theorem Bbq (p : List UInt8) (k j : Nat) (hj : j < k) : (A6o (wl p k) ++ BfK (80 - k))[j]? = some (.int .u32 (((wl p k).getD j 0 : Nat) : Int)) := by
 rw [List.getElem?_append_left (by simpa using hj), Bkr _ _ (by simpa using hj)]
theorem BmM (p : List UInt8) (k x : Nat) (hk : k < 80) (hx : x = BjQ p (wl p k) k) : (A6o (wl p k) ++ BfK (80 - k)).set k (.int .u32 (x : Int)) = A6o (wl p (k + 1)) ++ BfK (80 - (k + 1)) := by
 subst hx
 rw [List.set_append_right _ _ (by simp)]
 simp only [A9e, A99, Nat.sub_self]
 rw [show 80 - k = (80 - (k + 1)) + 1 from by omega]
 simp [BfK, List.replicate_succ, wl, A6o]

theorem ByB (p : List UInt8) (i : Nat) (h : i < 80) : (A6o (wl p 80) ++ BfK (80 - 80))[i]? = some (.int .u32 (((wl p 80).getD i 0 : Nat) : Int)) := Bbq p 80 i h
def A8T (i : Nat) (v : V5) (x : Nat) : Nat := ((((rot v.a 5 + sff i v.b v.c v.d) % 4294967296 + v.e) % 4294967296 + skk i) % 4294967296 + x) % 4294967296
def rnd (i : Nat) (v : V5) (x : Nat) : V5 := ⟨A8T i v x, v.a, rot v.b 30, v.c, v.d⟩
theorem BiT (i : Nat) {v : V5} (x : Nat) (h : v.ok) : (rnd i v x).ok := ⟨Nat.mod_lt _ (by omega), h.1, Bn6 _ h.2.1, h.2.2.1, h.2.2.2.1⟩
def Bld : Nat → V5 → List Nat → V5
 | _, v, [] => v
 | i, v, x :: l => Bld (i + 1) (rnd i v x) l
theorem Bol (l : List Nat) : ∀ (i : Nat) (v : V5), v.ok → (Bld i v l).ok := by
 induction l with
 | nil => intro i v h; exact h
 | cons x l ih => intro i v h; exact ih _ _ (BiT i x h)
theorem Bo9 (i : Nat) (v : V5) (l : List Nat) (h : i < l.length) : Bld i v (l.drop i) = Bld (i + 1) (rnd i v (l.getD i 0)) (l.drop (i + 1)) := by
 rw [BpC l i 0 h]; rfl

def BvU (h v : V5) : V5 := ⟨(h.a + v.a) % 4294967296, (h.b + v.b) % 4294967296, (h.c + v.c) % 4294967296, (h.d + v.d) % 4294967296, (h.e + v.e) % 4294967296⟩
theorem BlQ (h v : V5) : (BvU h v).ok := ⟨Nat.mod_lt _ (by omega), Nat.mod_lt _ (by omega), Nat.mod_lt _ (by omega), Nat.mod_lt _ (by omega), Nat.mod_lt _ (by omega)⟩
/-- One block of 64 bytes. -/
def blk (h : V5) (p : List UInt8) : V5 := BvU h (Bld 0 h (wl p 80))

/-- Blocks, aS long aS there are any: the state, and what is left. -/
def BrV : Nat → V5 → List UInt8 → V5 × List UInt8
 | 0, h, l => (h, l)
 | f + 1, h, l => if l.length < 64 then (h, l) else BrV f (blk h (l.take 64)) (l.drop 64)
def A33 (h : V5) (l : List UInt8) : V5 × List UInt8 := BrV l.length h l

theorem BoQ : ∀ (f g : Nat) (h : V5) (l : List UInt8), l.length ≤ f → l.length ≤ g → BrV f h l = BrV g h l := by
 intro f
 induction f with
 | zero =>
  intro g h l hf _
  have : l = [] := List.eq_nil_of_length_eq_zero (by omega)
  subst this
  cases g <;> simp [BrV]
 | succ f ih =>
  intro g h l hf hg
  cases g with
  | zero =>
   have : l = [] := List.eq_nil_of_length_eq_zero (by omega)
   subst this; simp [BrV]
  | succ g =>
   simp only [BrV]
   split
   ·rfl
   ·exact ih g _ _ (by simp; omega) (by simp; omega)
theorem A5O (h : V5) (l : List UInt8) (hl : l.length < 64) : A33 h l = (h, l) := by
 unfold A33
 cases hn : l.length with
 | zero => rfl
 | succ n => simp only [BrV]; rw [if_pos hl]
theorem A8b (h : V5) (l : List UInt8) (hl : 64 ≤ l.length) : A33 h l = A33 (blk h (l.take 64)) (l.drop 64) := by
 unfold A33
 obtain ⟨n, hn⟩ : ∃ n, l.length = n + 1 := ⟨l.length - 1, by omega⟩
 rw [hn]
 simp only [BrV]
 rw [if_neg (by omega)]
 exact BoQ _ _ _ _ (by simp; omega) (Nat.le_refl _)
theorem BdF (h : V5) (l : List UInt8) : (A33 h l).2.length < 64 := by
 suffices H : ∀ (n : Nat) (h : V5) (l : List UInt8), l.length ≤ n → (A33 h l).2.length < 64 from H _ h l (Nat.le_refl _)
 intro n
 induction n with
 | zero => intro h l hl; rw [A5O _ _ (by omega)]; simp; omega
 | succ n ih =>
  intro h l hl
  rcases Nat.lt_or_ge l.length 64 with h1 | h1
  ·rw [A5O _ _ h1]; exact h1
  ·rw [A8b _ _ h1]; exact ih _ _ (by simp; omega)
theorem Bhb (h : V5) (l : List UInt8) (hh : h.ok) : (A33 h l).1.ok := by
 suffices H : ∀ (n : Nat) (h : V5) (l : List UInt8), h.ok → l.length ≤ n → (A33 h l).1.ok from H _ h l hh (Nat.le_refl _)
 intro n
 induction n with
 | zero => intro h l hh hl; rw [A5O _ _ (by omega)]; exact hh
 | succ n ih =>
  intro h l hh hl
  rcases Nat.lt_or_ge l.length 64 with h1 | h1
  ·rw [A5O _ _ h1]; exact hh
  ·rw [A8b _ _ h1]; exact ih _ _ (BlQ _ _) (by simp; omega)
/-- More bytes behind: the A33 of the first part come first. -/
theorem Bjb (h : V5) (l m : List UInt8) : A33 h (l ++ m) = A33 (A33 h l).1 ((A33 h l).2 ++ m) := by
 suffices H : ∀ (n : Nat) (h : V5) (l : List UInt8), l.length ≤ n → A33 h (l ++ m) = A33 (A33 h l).1 ((A33 h l).2 ++ m) from H _ h l (Nat.le_refl _)
 intro n
 induction n with
 | zero => intro h l hl; rw [A5O h l (by omega)]
 | succ n ih =>
  intro h l hl
  rcases Nat.lt_or_ge l.length 64 with h1 | h1
  ·rw [A5O h l h1]
  ·rw [A8b h l h1, A8b h (l ++ m) (by simp; omega), List.take_append_of_le_length h1, List.drop_append_of_le_length h1]
   exact ih _ _ (by simp; omega)

def H0 : V5 := ⟨1732584193, 4023233417, 2562383102, 271733878, 3285377520⟩
theorem BqM : H0.ok := by unfold V5.ok H0; refine ⟨?_, ?_, ?_, ?_, ?_⟩ <;> decide

/-- The byte k of 8, the greatest first. -/
def be8 (n : Nat) : List UInt8 := (List.range 8).map fun k => UInt8.ofNat (n / 2 ^ (56 - 8 * k) % 256)
theorem A6S (n : Nat) : (be8 n).length = 8 := by simp [be8]
theorem BmE (n i : Nat) (hi : i < 8) : (be8 n).take (i + 1) = (be8 n).take i ++ [UInt8.ofNat (n / 2 ^ (56 - 8 * i) % 256)] := by
 rw [List.take_succ_eq_append_getElem (by rw [A6S]; exact hi)]
 congr 2
 simp [be8]
/-- What is put behind n bytes. -/
def BfJ (n : Nat) : List UInt8 := 128 :: List.replicate ((119 - n % 64) % 64) 0 ++ be8 (n * 8 % 18446744073709551616)
/-- The 20 bytes of five words. -/
def A4M (v : V5) : List UInt8 := (List.range 20).map fun i => UInt8.ofNat (v.list.getD (i / 4) 0 / 2 ^ (24 - 8 * (i % 4)) % 256)
theorem A4f (v : V5) : (A4M v).length = 20 := by simp [A4M]
theorem Bit (v : V5) (i : Nat) (hi : i < 20) : (A4M v).take (i + 1) = (A4M v).take i ++ [UInt8.ofNat (v.list.getD (i / 4) 0 / 2 ^ (24 - 8 * (i % 4)) % 256)] := by
 rw [List.take_succ_eq_append_getElem (by rw [A4f]; exact hi)]
 congr 2
 simp [A4M]
def z8 (n : Nat) : List Value := List.replicate n (.int .u8 0)
theorem BmN (v : V5) (i : Nat) (hi : i < 20) : (bv ((A4M v).take i) ++ z8 (20 - i))[i]? = some (.int .u8 0) := by
 rw [List.getElem?_append_right (by simp [A4f]; omega), A6e, List.length_take, A4f, z8, List.getElem?_replicate, if_pos (by omega)]
theorem Bm7 (v : V5) (i k : Nat) (hi : i < 5) (hk : k < 4) : (A4M v).take (4 * i + k + 1) = (A4M v).take (4 * i + k) ++ [UInt8.ofNat (v.list.getD i 0 / 2 ^ (24 - 8 * k) % 256)] := by
 have h := Bit v (4 * i + k) (by omega)
 rw [show (4 * i + k) / 4 = i from by omega, show (4 * i + k) % 4 = k from by omega] at h
 exact h
theorem Bqx (v : V5) (i : Nat) (hi : i < 20) {y : UInt8} (hy : (A4M v).take (i + 1) = (A4M v).take i ++ [y]) {z : Int} (hz : z = (y.toNat : Int)) : (bv ((A4M v).take i) ++ z8 (20 - i)).set i (.int .u8 z) = bv ((A4M v).take (i + 1)) ++ z8 (20 - (i + 1)) := by
 subst hz
 have hl : (bv ((A4M v).take i)).length = i := by simp [A4f]; omega
 rw [List.set_append_right _ _ (by omega), hl, Nat.sub_self, hy, show 20 - i = (20 - (i + 1)) + 1 from by omega]
 simp [z8, List.replicate_succ, bv]
theorem BrD {n z j m : Nat} (hz : z = (119 - n % 64) % 64) (hj : j < z) (hm : m = n + 1 + j) : (((m : Int) % 64) != 56) = true := by rw [bne_iff_ne]; omega
theorem Brp {n z j m : Nat} (hz : z = (119 - n % 64) % 64) (hj : j = z) (hm : m = n + 1 + j) : (((m : Int) % 64) != 56) = false := by rw [bne_eq_false_iff_eq]; omega
/-- The Bun text is made of whole A33. -/
theorem Bun (l : List UInt8) : ∃ q, (l ++ BfJ l.length).length = 64 * q := by
 have h : (l ++ BfJ l.length).length = l.length + (1 + (119 - l.length % 64) % 64 + 8) := by simp [BfJ, A6S]; omega
 rw [h]
 exact ⟨(l.length + (1 + (119 - l.length % 64) % 64 + 8)) / 64, by omega⟩
theorem Bsz (n : Nat) : (BfJ n).length ≤ 73 := by simp [BfJ, A6S]; omega
theorem BtD (n q : Nat) (hq : q < 8) : (be8 n).take (8 - q) = (be8 n).take (7 - q) ++ [UInt8.ofNat (n / 2 ^ (8 * q) % 256)] := by
 have h := BmE n (7 - q) (by omega)
 rw [show 7 - q + 1 = 8 - q from by omega, show 56 - 8 * (7 - q) = 8 * q from by omega] at h
 exact h
/-- SHA-1. -/
def sha (l : List UInt8) : List UInt8 := A4M (A33 H0 (l ++ BfJ l.length)).1
@[simp] theorem BaK (l : List UInt8) : (sha l).length = 20 := by simp [sha, A4M]

/-- The rounds from i on, out of the state v, come to what all come to out of h. -/
structure BcJ (p : List UInt8) (h : V5) (i : Nat) (v : V5) : Prop where
 eq : Bld i v ((wl p 80).drop i) = Bld 0 h (wl p 80)
theorem BcJ.zero (p : List UInt8) (h : V5) : BcJ p h 0 h := ⟨rfl⟩
theorem BcJ.succ {p : List UInt8} {h v : V5} {i : Nat} (H : BcJ p h i v) (hi : i < 80) : BcJ p h (i + 1) (rnd i v ((wl p 80).getD i 0)) := by
 have e := H.eq; rw [Bo9 _ _ _ (by rw [A99]; exact hi)] at e; exact ⟨e⟩
theorem BcJ.last {p : List UInt8} {h v : V5} (H : BcJ p h 80 v) : v = Bld 0 h (wl p 80) := by
 have e := H.eq; rw [List.drop_eq_nil_of_le (by rw [A99]; exact Nat.le_refl _)] at e; exact e
/-- The sum of two states, aS far aS it is made. -/
def Bt8 (h v : V5) (k : Nat) : List Nat := (BvU h v).list.take k ++ h.list.drop k
theorem BhG (h v : V5) (k : Nat) : (Bt8 h v k).length = 5 := by
 simp [Bt8, V5.list]; omega
theorem BmP (h v : V5) (k : Nat) (hk : k < 5) : (A6o (Bt8 h v k))[k]? = some (.int .u32 ((h.list.getD k 0 : Nat) : Int)) := by
 rcases (show k = 0 ∨ k = 1 ∨ k = 2 ∨ k = 3 ∨ k = 4 from by omega) with rfl | rfl | rfl | rfl | rfl <;> rfl
theorem BmH (h v : V5) (k : Nat) (hk : k < 5) : (A6o (Bt8 h v k)).set k (.int .u32 (((h.list.getD k 0 + v.list.getD k 0) % 4294967296 : Nat) : Int)) = A6o (Bt8 h v (k + 1)) := by
 rcases (show k = 0 ∨ k = 1 ∨ k = 2 ∨ k = 3 ∨ k = 4 from by omega) with rfl | rfl | rfl | rfl | rfl <;> rfl
theorem BkP (h v : V5) : Bt8 h v 5 = (BvU h v).list := rfl
theorem Be3 (v : V5) (k : Nat) (hk : k < 5) : (A6o v.list)[k]? = some (.int .u32 ((v.list.getD k 0 : Nat) : Int)) := by
 rcases (show k = 0 ∨ k = 1 ∨ k = 2 ∨ k = 3 ∨ k = 4 from by omega) with rfl | rfl | rfl | rfl | rfl <;> rfl
theorem V5.ok.get {v : V5} (h : v.ok) (k : Nat) : v.list.getD k 0 < 4294967296 := by
 refine BjU ?_ (by omega) k
 intro x hx
 simp only [V5.list, List.mem_cons, List.not_mem_nil, or_false] at hx
 obtain ⟨h1, h2, h3, h4, h5⟩ := h
 rcases hx with rfl | rfl | rfl | rfl | rfl <;> assumption
theorem BCJ {i b c d : Nat} (h : i < 20) : sff i b c d = sf1 b c d := by unfold sff; rw [if_pos h]
theorem BC0 {i b c d : Nat} (h : 20 ≤ i) (h2 : i < 40) : sff i b c d = sf2 b c d := by unfold sff; rw [if_neg (by omega), if_pos h2]
theorem BCT {i b c d : Nat} (h : 40 ≤ i) (h2 : i < 60) : sff i b c d = sf3 b c d := by unfold sff; rw [if_neg (by omega), if_neg (by omega), if_pos h2]
theorem BCu {i b c d : Nat} (h : 60 ≤ i) : sff i b c d = sf2 b c d := by unfold sff; rw [if_neg (by omega), if_neg (by omega), if_neg (by omega)]
theorem BCE {i : Nat} (h : i < 20) : skk i = 1518500249 := by unfold skk; rw [if_pos h]
theorem BC6 {i : Nat} (h : 20 ≤ i) (h2 : i < 40) : skk i = 1859775393 := by unfold skk; rw [if_neg (by omega), if_pos h2]
theorem BCz {i : Nat} (h : 40 ≤ i) (h2 : i < 60) : skk i = 2400959708 := by unfold skk; rw [if_neg (by omega), if_neg (by omega), if_pos h2]
theorem BCR {i : Nat} (h : 60 ≤ i) : skk i = 3395469782 := by unfold skk; rw [if_neg (by omega), if_neg (by omega), if_neg (by omega)]
end Go.Proofs.YtmlompedpahkjaaGreatDoor.Kit


namespace Go.Proofs.YtmlompedpahkjaaGreatDoor.Kit












/-- How great the second sum gets. -/
def tb : Nat → Nat
 | 0 => 65520
 | i + 1 => tb i + (65520 + 255 * (i + 1))

end Go.Proofs.YtmlompedpahkjaaGreatDoor.Kit


namespace Go.Proofs.YtmlompedpahkjaaGreatDoor.Kit
open Go.RowKit

theorem A9k {a b : Int} (h : a = b) : Ending.returned (.int .u32 a) = .returned (.int .u32 b) := by rw [h]
end Go.Proofs.YtmlompedpahkjaaGreatDoor.Kit


namespace Go.Proofs.YtmlompedpahkjaaGreatDoor.Kit
open Go.RowKit
set_option linter.unusedVariables false

theorem Bf0 (x : Nat) (k : Nat) (hx : x < 4294967296) (hk : k < 32) : bits .or .u32 ((x : Int) * (2 ^ k : Nat) % 4294967296) ((x : Int) / (2 ^ (32 - k) : Nat)) = ((rot x k : Nat) : Int) := by
 rw [show (x : Int) * (2 ^ k : Nat) % 4294967296 = ((x * 2 ^ k % 4294967296 : Nat) : Int) from by rw [Int.natCast_emod, Int.natCast_mul]; rfl, show (x : Int) / (2 ^ (32 - k) : Nat) = ((x / 2 ^ (32 - k) : Nat) : Int) from by rw [Int.natCast_ediv],
  u32_or_nat _ _ (Nat.mod_lt _ (by omega)) (Nat.lt_of_le_of_lt (Nat.div_le_self _ _) hx)]
 rfl

set_option maxRecDepth 100000 in
set_option maxHeartbeats 400000 in
theorem BeU (x : Nat) (k : Int) (w : World) (hx : x < 4294967296) (hk : k = 1 ∨ k = 5 ∨ k = 30) :
  Calls Tryz.prog 50 #[.int .u32 x, .int .i64 k] w fun e w' => e = .returned (.int .u32 (rot x k.toNat)) ∧ w = w' := by
 rcases hk with rfl | rfl | rfl
 ·have hm : bits .and .u64 1 31 = 1 := by decide
  go_enter Tryz.func50, Tryz.ntmps50
  go_wp2
  go_ret
  exact ⟨A9k (Bf0 x 1 hx (by omega)), rfl⟩
 ·have hm : bits .and .u64 5 31 = 5 := by decide
  go_enter Tryz.func50, Tryz.ntmps50
  go_wp2
  go_ret
  exact ⟨A9k (Bf0 x 5 hx (by omega)), rfl⟩
 ·have hm : bits .and .u64 30 31 = 30 := by decide
  go_enter Tryz.func50, Tryz.ntmps50
  go_wp2
  go_ret
  exact ⟨A9k (Bf0 x 30 hx (by omega)), rfl⟩

set_option maxRecDepth 100000 in
set_option maxHeartbeats 400000 in
theorem turn (x : Nat) (k : Int) (w : World) (hx : x < 4294967296) (hk : k = 1 ∨ k = 5 ∨ k = 30) :
  Calls Tryz.prog 42 #[.int .u32 x, .int .i64 k] w fun e w' => e = .returned (.int .u32 (rot x k.toNat)) ∧ ∃ n, w' = w.drewN n := by
 rcases hk with rfl | rfl | rfl
 ·go_enter Tryz.func42, Tryz.ntmps42
  go_wp2
  go_quiet (fail)
  go_wp2
  go_ret
  exact ⟨A9k (Bf0 x 1 hx (by omega)), _, rfl⟩
 ·go_enter Tryz.func42, Tryz.ntmps42
  go_wp2
  go_quiet (fail)
  go_wp2
  go_ret
  exact ⟨A9k (Bf0 x 5 hx (by omega)), _, rfl⟩
 ·go_enter Tryz.func42, Tryz.ntmps42
  go_wp2
  go_quiet (fail)
  go_wp2
  go_ret
  exact ⟨A9k (Bf0 x 30 hx (by omega)), _, rfl⟩

theorem BmZ (a b c d : Nat) (ha : a < 4294967296) (hb : b < 4294967296) (hc : c < 4294967296) (hd : d < 4294967296) :
  bits .xor .u32 (bits .xor .u32 (bits .xor .u32 a b) c) d = (((((a ^^^ b) ^^^ c) ^^^ d : Nat)) : Int) := by
 rw [u32_xor_nat _ _ ha hb, u32_xor_nat _ _ (A31 ha hb) hc, u32_xor_nat _ _ (A31 (A31 ha hb) hc) hd]
theorem BoV (b c d : Nat) (hb : b < 4294967296) (hc : c < 4294967296) (hd : d < 4294967296) :
  bits .or .u32 (bits .and .u32 b c) (bits .and .u32 (bits .xor .u32 IntKind.u32.max b) d) = ((sf1 b c d : Nat) : Int) := by
 rw [show IntKind.u32.max = ((4294967295 : Nat) : Int) from rfl, u32_and_nat _ _ hb hc, u32_xor_nat _ _ (by omega) hb, u32_and_nat _ _ (A31 (by omega) hb) hd, u32_or_nat _ _ (A4Z hb) (A4Z (A31 (by omega) hb))]; rfl
theorem Bj2 (b c d : Nat) (hb : b < 4294967296) (hc : c < 4294967296) (hd : d < 4294967296) : bits .xor .u32 (bits .xor .u32 b c) d = ((sf2 b c d : Nat) : Int) := by
 rw [u32_xor_nat _ _ hb hc, u32_xor_nat _ _ (A31 hb hc) hd]; rfl
theorem Bop (b c d : Nat) (hb : b < 4294967296) (hc : c < 4294967296) (hd : d < 4294967296) :
  bits .or .u32 (bits .or .u32 (bits .and .u32 b c) (bits .and .u32 b d)) (bits .and .u32 c d) = ((sf3 b c d : Nat) : Int) := by
 rw [u32_and_nat _ _ hb hc, u32_and_nat _ _ hb hd, u32_and_nat _ _ hc hd, u32_or_nat _ _ (A4Z hb) (A4Z hb), u32_or_nat _ _ (Bcp (A4Z hb) (A4Z hb)) (A4Z hc)]; rfl

set_option maxRecDepth 100000 in
set_option maxHeartbeats 400000 in
theorem BC8 (b c d : Nat) (w : World) (hb : b < 4294967296) (hc : c < 4294967296) (hd : d < 4294967296) :
  Calls Tryz.prog 65 #[.int .u32 b, .int .u32 c, .int .u32 d] w fun e w' => e = .returned (.int .u32 (sf1 b c d)) ∧ w = w' := by
 go_enter Tryz.func65, Tryz.ntmps65
 go_wp2
 go_ret
 exact ⟨A9k (BoV b c d hb hc hd), rfl⟩

set_option maxRecDepth 100000 in
set_option maxHeartbeats 400000 in
theorem BDv (b c d : Nat) (w : World) (hb : b < 4294967296) (hc : c < 4294967296) (hd : d < 4294967296) :
  Calls Tryz.prog 66 #[.int .u32 b, .int .u32 c, .int .u32 d] w fun e w' => e = .returned (.int .u32 (sf2 b c d)) ∧ w = w' := by
 go_enter Tryz.func66, Tryz.ntmps66
 go_wp2
 go_ret
 exact ⟨A9k (Bj2 b c d hb hc hd), rfl⟩

set_option maxRecDepth 100000 in
set_option maxHeartbeats 400000 in
theorem BC9 (b c d : Nat) (w : World) (hb : b < 4294967296) (hc : c < 4294967296) (hd : d < 4294967296) :
  Calls Tryz.prog 67 #[.int .u32 b, .int .u32 c, .int .u32 d] w fun e w' => e = .returned (.int .u32 (sf3 b c d)) ∧ w = w' := by
 go_enter Tryz.func67, Tryz.ntmps67
 go_wp2
 go_ret
 exact ⟨A9k (Bop b c d hb hc hd), rfl⟩

set_option maxRecDepth 100000 in
set_option maxHeartbeats 400000 in
theorem BDm (b c d : Nat) (w : World) (hb : b < 4294967296) (hc : c < 4294967296) (hd : d < 4294967296) :
  Calls Tryz.prog 68 #[.int .u32 b, .int .u32 c, .int .u32 d] w fun e w' => e = .returned (.int .u32 (sf2 b c d)) ∧ w = w' := by
 go_enter Tryz.func68, Tryz.ntmps68
 go_wp2
 go_ret
 exact ⟨A9k (Bj2 b c d hb hc hd), rfl⟩

theorem Bmz (x0 x1 x2 x3 : UInt8) : bits .or .u32 (bits .or .u32 (bits .or .u32 ((x0.toNat : Int) * 16777216) ((x1.toNat : Int) * 65536)) ((x2.toNat : Int) * 256)) (x3.toNat : Int) =
  ((x0.toNat * 16777216 + x1.toNat * 65536 + x2.toNat * 256 + x3.toNat : Nat) : Int) := by
 have := UInt8.toNat_lt x0; have := UInt8.toNat_lt x1; have := UInt8.toNat_lt x2; have := UInt8.toNat_lt x3
 rw [show (x0.toNat : Int) * 16777216 = ((x0.toNat * 16777216 : Nat) : Int) from by omega, show (x1.toNat : Int) * 65536 = ((x1.toNat * 65536 : Nat) : Int) from by omega, show (x2.toNat : Int) * 256 = ((x2.toNat * 256 : Nat) : Int) from by omega,
  u32_or_nat _ _ (by omega) (by omega), nat_join 24 (x0.toNat * 16777216) (x1.toNat * 65536) (by omega) (by omega),
  u32_or_nat _ _ (by omega) (by omega), nat_join 16 (x0.toNat * 16777216 + x1.toNat * 65536) (x2.toNat * 256) (by omega) (by omega),
  u32_or_nat _ _ (by omega) (by omega), nat_join 8 (x0.toNat * 16777216 + x1.toNat * 65536 + x2.toNat * 256) x3.toNat (by omega) (by omega)]

set_option maxRecDepth 100000 in
set_option maxHeartbeats 400000 in
theorem BwC (a : Option Addr) (cap i : Nat) (p : List UInt8) (w : World) (hb : Bs w a p) (hi : i + 4 ≤ p.length) (hp : p.length ≤ 9223372036854775807) :
  Calls Tryz.prog 41 #[.slice a p.length cap, .int .i64 i] w fun e w' => e = .returned (.int .u32 (BqE p i)) ∧ ∃ n, w' = w.drewN n := by
 obtain ⟨b, off, x0, rfl, hc0, hx0, HX0⟩ := hb.at (j := i) (by omega)
 obtain ⟨x1, hc1, hx1, HX1⟩ := hb.at' (j := i + 1) (by omega)
 obtain ⟨x2, hc2, hx2, HX2⟩ := hb.at' (j := i + 2) (by omega)
 obtain ⟨x3, hc3, hx3, HX3⟩ := hb.at' (j := i + 3) (by omega)
 go_enter Tryz.func41, Tryz.ntmps41
 go_wp2
 go_quiet (fail)
 go_wp2
 go_ret
 refine ⟨A9k ?_, _, rfl⟩
 rw [Bmz]; unfold BqE; rw [← HX0.out, ← HX1.out, ← HX2.out, ← HX3.out]
theorem BqX (a : Option Addr) (cap : Nat) (i : Int) (p : List UInt8) (w : World) (hb : Bs w a p) (hp : p.length = 64) (hi : 0 ≤ i ∧ i + 4 ≤ 64) :
  Calls Tryz.prog 41 #[.slice a 64 cap, .int .i64 i] w fun e w' => e = .returned (.int .u32 (BqE p i.toNat)) ∧ ∃ n, w' = w.drewN n := by
 obtain ⟨j, rfl⟩ := Int.eq_ofNat_of_zero_le hi.1
 rw [Int.toNat_natCast]
 have := BwC a cap j p w hb (by omega) (by omega)
 rw [hp] at this; exact this
end Go.Proofs.YtmlompedpahkjaaGreatDoor.Kit


namespace Go.Proofs.YtmlompedpahkjaaGreatDoor.Kit
open Go.RowKit
set_option linter.unusedVariables false

/-- Block b holds the cells cs, of type t, none of them frozen. -/
def Arr (w : World) (b : Nat) (t : TypeId) (cs : List Value) : Prop := w.heap[b]? = some (.cells cs.toArray t (0, 0))

section
variable {w : World} {b : Nat} {t : TypeId} {cs : List Value}
theorem Arr.cell (h : Arr w b t cs) (i : Nat) : w.cell? ⟨b, i, none⟩ = cs[i]? := by rw [cell_of_row w b i _ t _ h]; simp
theorem Arr.frozen (h : Arr w b t cs) (i : Nat) : w.frozen? ⟨b, i, none⟩ = false := frozen_of_row _ _ _ _ _ h
theorem Arr.set (h : Arr w b t cs) (i : Nat) (v : Value) : Arr (w.setCell ⟨b, i, none⟩ v) b t (cs.set i v) := by
 unfold Arr; rw [heap_setCell_same _ _ _ _ _ _ h]; simp
theorem Arr.other (h : Arr w b t cs) (a : Addr) (v : Value) (hne : b ≠ a.block) : Arr (w.setCell a v) b t cs := by
 unfold Arr; rw [heap_setCell_other _ _ _ _ hne]; exact h
theorem Arr.keep {w' : World} (h : Arr w b t cs) (k : A3o w w') : Arr w' b t cs := by
 unfold Arr at *; rw [Below.block k b (Array.getElem?_eq_some_iff.1 h).1]; exact h
theorem Arr.alloc (h : Arr w b t cs) (o : Obj) : Arr (w.alloc o) b t cs := h.keep ((A3o.refl w).alloc o)
theorem Arr.drewN (h : Arr w b t cs) (n : Nat) : Arr (w.drewN n) b t cs := h
theorem Arr.drew (h : Arr w b t cs) : Arr w.drew b t cs := h
theorem Arr.lt (h : Arr w b t cs) : b < w.heap.size := (Array.getElem?_eq_some_iff.1 h).1
theorem Arr.grown {w' : World} {row : Option Nat} (h : Arr w b t cs) (hg : w.grownBy w' row) (hne : some b ≠ row) : Arr w' b t cs := by
 unfold Arr; rw [hg.block b h.lt hne]; exact h
end
theorem Arr.ne {w : World} {b c : Nat} {t u : TypeId} {xs ys : List Value} (h : Arr w b t xs) (k : Arr w c u ys) (hne : t ≠ u) : b ≠ c := by
 rintro rfl
 unfold Arr at h k; rw [h] at k
 simp only [Option.some.injEq, Obj.cells.injEq] at k
 exact hne k.2.1
theorem Arr.new (w : World) (cs : Array Value) (t : TypeId) : Arr (w.alloc (.cells cs t)) w.heap.size t cs.toList := by unfold Arr; rw [heap_alloc_new]
theorem Arr.newAt (w : World) (cs : Array Value) (t : TypeId) (b : Nat) (hb : b = w.heap.size) : Arr (w.alloc (.cells cs t)) b t cs.toList := by subst hb; exact Arr.new w cs t

theorem Arr.five {w : World} {b : Nat} {t : TypeId} {c0 c1 c2 c3 c4 : Value} (h : Arr w b t [c0, c1, c2, c3, c4]) :
  w.cell? ⟨b, 0, none⟩ = some c0 ∧ w.cell? ⟨b, 1, none⟩ = some c1 ∧ w.cell? ⟨b, 2, none⟩ = some c2 ∧ w.cell? ⟨b, 3, none⟩ = some c3 ∧ w.cell? ⟨b, 4, none⟩ = some c4 :=
 ⟨h.cell 0, h.cell 1, h.cell 2, h.cell 3, h.cell 4⟩
end Go.Proofs.YtmlompedpahkjaaGreatDoor.Kit


namespace Go.Proofs.YtmlompedpahkjaaGreatDoor.Kit
open Go.RowKit
set_option linter.unusedVariables false

def BcY : List Value := [.func (.func 65) #[] #[], .int .u32 1518500249, .func (.func 66) #[] #[], .int .u32 1859775393, .func (.func 67) #[] #[], .int .u32 2400959708, .func (.func 68) #[] #[], .int .u32 3395469782]

set_option maxRecDepth 100000 in
theorem BCj (w : World) : Calls Tryz.prog 51 #[] w fun e w' => e = .returned (.agg #[.func (.func 65) #[] #[], .int .u32 1518500249, .func (.func 66) #[] #[], .int .u32 1859775393, .func (.func 67) #[] #[], .int .u32 2400959708, .func (.func 68) #[] #[], .int .u32 3395469782]) ∧ A3o w w' := by
 go_enter Tryz.func51, Tryz.ntmps51
 go_wp2
 refine bodyPost_ret (v := .agg #[.func (.func 65) #[] #[], .int .u32 1518500249, .func (.func 66) #[] #[], .int .u32 1859775393, .func (.func 67) #[] #[], .int .u32 2400959708, .func (.func 68) #[] #[], .int .u32 3395469782]) (by simp [results, Tryz.results51, go_sem]) rfl ⟨rfl, ?_⟩
 exact (A3o.refl w).alloc _

theorem Be6 {P : Program} {f : FuncId} {args : Array Value} {w : World} {v : Value} (h : Calls P f args w fun e w' => e = .returned v ∧ w = w') : Calls P f args w fun e w'' => e = .returned v ∧ w'' = w :=
 h.mono fun _ _ ⟨he, hm⟩ => ⟨he, hm.symm⟩

def BBt : Array Value := (BfK 80).toArray
theorem Tryz.zero80' (w : World) : (zeroValue 104).run Tryz.prog w = .ok (.agg BBt) w := by kernel_rfl

/-- An array that was read whole, indexed. -/
theorem Bhn (L : List Nat) (i : Nat) (hi : i < 80) (hL : L.length = 80) (w : World) : (Instr.index 104 (.agg (A6o L).toArray) (.int .i64 (i : Int))).run Tryz.prog w = .ok (.int .u32 ((L.getD i 0 : Nat) : Int)) w := by
 have h1 : ∀ w : World, (isAgg 78).run Tryz.prog w = .ok false w := fun w => by kernel_rfl
 have h2 : ∀ w : World, (sizeOf 78).run Tryz.prog w = .ok 1 w := fun w => by kernel_rfl
 have h3 : (0 : Int) ≤ i ∧ (i : Int) < 80 := by omega
 simp [Instr.index, run_underlying Tryz.underlying104, asIntOf, h2, part, h1, go_sem]
 have h5 : (A6o L)[i]? = some (.int .u32 ((L.getD i 0 : Nat) : Int)) := Bkr L i (by omega)
 rw [if_pos hi, h5]; simp

set_option maxRecDepth 100000 in
set_option maxHeartbeats 8000000 in
theorem block (g : Nat) (h : V5) (vr vs : Value) (a : Option Addr) (cap : Nat) (p : List UInt8) (w : World) (hh : h.ok) (hb : Bs w a p) (hp : p.length = 64) (hd : Arr w g 89 (A6o h.list ++ [vr, vs])) :
  Calls Tryz.prog 37 #[.pointer (some ⟨g, 0, none⟩), .slice a 64 cap] w fun e w' =>
   e = .returned (.tuple #[]) ∧ Arr w' g 89 (A6o (blk h p).list ++ [vr, vs]) ∧ w.grownBy w' (some g) := by
 have HP := Lib.hid hp
 have hz := Tryz.zero80'
 clear hp
 go_enter Tryz.func37, Tryz.ntmps37
 go_upto_block 0 with (fail)
 have h2 : Arr (w.alloc (.cells BBt 104)) w.heap.size 104 (BfK 80) := Arr.newAt _ _ _ _ (by simp)
 have hk0 : A3o w (w.alloc (.cells BBt 104)) := (A3o.refl w).alloc _
 go_cut [] (fun wc => Arr wc w.heap.size 104 (A6o (wl p 80) ++ BfK (80 - 80)) ∧ A3o w wc)
 case first =>
  go_wp2
  go_loopw [5, 13] (fun _ i wr => ∃ k : Nat, k ≤ 80 ∧ i = .int .i64 k ∧ Arr wr w.heap.size 104 (A6o (wl p k) ++ BfK (80 - k)) ∧ A3o w wr) (fun _ i _ => 80 - (intOf i).toNat)
  case atStart => exact ⟨0, by omega, rfl, h2, hk0⟩
  case round =>
   clear h2 hk0
   obtain ⟨k, hk, rfl, h2, hk0⟩ := hrel
   by_cases hlt : k < 80
   ·have hc : wr.cell? ⟨w.heap.size, k, none⟩ = some (.int .u32 0) := by rw [h2.cell]; exact BlG p k (by omega)
    have hf := h2.frozen k
    have hki : (k : Int) < 80 := by omega
    by_cases h16 : k < 16
    ·have hp := HP.out
     obtain ⟨b, off, x0, rfl, hc0, hx0, HX0⟩ := (hb.keep hk0).at (j := 4 * k) (by omega)
     obtain ⟨x1, hc1, hx1, HX1⟩ := (hb.keep hk0).at' (j := 4 * k + 1) (by omega)
     obtain ⟨x2, hc2, hx2, HX2⟩ := (hb.keep hk0).at' (j := 4 * k + 2) (by omega)
     obtain ⟨x3, hc3, hx3, HX3⟩ := (hb.keep hk0).at' (j := 4 * k + 3) (by omega)
     clear hp
     have s0 : IntKind.i64.wrap (4 * (k : Int)) = 4 * (k : Int) := IntWalk.i64_in _ (by omega)
     have s1 : IntKind.i64.wrap (4 * (k : Int) + 1) = 4 * (k : Int) + 1 := IntWalk.i64_in _ (by omega)
     have s2 : IntKind.i64.wrap (4 * (k : Int) + 2) = 4 * (k : Int) + 2 := IntWalk.i64_in _ (by omega)
     have s3 : IntKind.i64.wrap (4 * (k : Int) + 3) = 4 * (k : Int) + 3 := IntWalk.i64_in _ (by omega)
     have t0 : (4 * (k : Int)).toNat = 4 * k := by omega
     have t1 : (4 * (k : Int) + 1).toNat = 4 * k + 1 := by omega
     have t2 : (4 * (k : Int) + 2).toNat = 4 * k + 2 := by omega
     have t3 : (4 * (k : Int) + 3).toNat = 4 * k + 3 := by omega
     have g0 : (4 * (k : Int)) < 64 := by omega
     have g1 : (4 * (k : Int) + 1) < 64 := by omega
     have g2 : (4 * (k : Int) + 2) < 64 := by omega
     have g3 : (4 * (k : Int) + 3) < 64 := by omega
     have p0 : 0 ≤ (4 * (k : Int)) := by omega
     have p1 : 0 ≤ (4 * (k : Int) + 1) := by omega
     have p2 : 0 ≤ (4 * (k : Int) + 2) := by omega
     have p3 : 0 ≤ (4 * (k : Int) + 3) := by omega
     go_upto_region 5 with (fail)
     go_still_tail 35, (by kernel_rfl)
     go_wp2
     go_roundw
     case rel =>
      go_light
      refine ⟨k + 1, by omega, by go_num, ?_, Below.drew (Below.setCell hk0 (Nat.le_refl _) _)⟩
      have h5 := Arr.set h2 k (.int .u32 ((BqE p (4 * k) : Nat) : Int))
      rw [BmM p k _ hlt (by unfold BjQ; rw [if_pos h16])] at h5
      have e : ((BqE p (4 * k) : Nat) : Int) = bits .or .u32 (bits .or .u32 (bits .or .u32 ((x0.toNat : Int) * 16777216) ((x1.toNat : Int) * 65536)) ((x2.toNat : Int) * 256)) (x3.toNat : Int) := by
       rw [Bmz]; unfold BqE; rw [← HX0.out, ← HX1.out, ← HX2.out, ← HX3.out]
      rw [e] at h5
      exact h5
     case measure => simp [intOf]; omega
    ·have r3 : wr.cell? ⟨w.heap.size, k - 3, none⟩ = some (.int .u32 (((wl p k).getD (k - 3) 0 : Nat) : Int)) := by rw [h2.cell]; exact Bbq p k _ (by omega)
     have r8 : wr.cell? ⟨w.heap.size, k - 8, none⟩ = some (.int .u32 (((wl p k).getD (k - 8) 0 : Nat) : Int)) := by rw [h2.cell]; exact Bbq p k _ (by omega)
     have r14 : wr.cell? ⟨w.heap.size, k - 14, none⟩ = some (.int .u32 (((wl p k).getD (k - 14) 0 : Nat) : Int)) := by rw [h2.cell]; exact Bbq p k _ (by omega)
     have r16 : wr.cell? ⟨w.heap.size, k - 16, none⟩ = some (.int .u32 (((wl p k).getD (k - 16) 0 : Nat) : Int)) := by rw [h2.cell]; exact Bbq p k _ (by omega)
     have hn : BjQ p (wl p k) k = rot ((((wl p k).getD (k - 3) 0 ^^^ (wl p k).getD (k - 8) 0) ^^^ (wl p k).getD (k - 14) 0) ^^^ (wl p k).getD (k - 16) 0) 1 := by unfold BjQ; rw [if_neg (by omega)]
     have b3 := A51 p k (k - 3)
     have b8 := A51 p k (k - 8)
     have b14 := A51 p k (k - 14)
     have b16 := A51 p k (k - 16)
     generalize (wl p k).getD (k - 3) 0 = x3 at *
     generalize (wl p k).getD (k - 8) 0 = x8 at *
     generalize (wl p k).getD (k - 14) 0 = x14 at *
     generalize (wl p k).getD (k - 16) 0 = x16 at *
     have HN := Lib.hid hn; clear hn
     have s3 : IntKind.i64.wrap ((k : Int) - 3) = (k : Int) - 3 := IntWalk.i64_in _ (by omega)
     have t3 : ((k : Int) - 3).toNat = k - 3 := by omega
     have g3 : ((k : Int) - 3) < 80 := by omega
     have p3 : (3 : Int) ≤ k := by omega
     have s8 : IntKind.i64.wrap ((k : Int) - 8) = (k : Int) - 8 := IntWalk.i64_in _ (by omega)
     have t8 : ((k : Int) - 8).toNat = k - 8 := by omega
     have g8 : ((k : Int) - 8) < 80 := by omega
     have p8 : (8 : Int) ≤ k := by omega
     have s14 : IntKind.i64.wrap ((k : Int) - 14) = (k : Int) - 14 := IntWalk.i64_in _ (by omega)
     have t14 : ((k : Int) - 14).toNat = k - 14 := by omega
     have g14 : ((k : Int) - 14) < 80 := by omega
     have p14 : (14 : Int) ≤ k := by omega
     have s16 : IntKind.i64.wrap ((k : Int) - 16) = (k : Int) - 16 := IntWalk.i64_in _ (by omega)
     have t16 : ((k : Int) - 16).toNat = k - 16 := by omega
     have g16 : ((k : Int) - 16) < 80 := by omega
     have p16 : (16 : Int) ≤ k := by omega
     go_upto_region 6 with (fail)
     go_still_tail 22, (by kernel_rfl)
     refine wpStill_step (fun K hK => ?_)
     go_simp
     rw [BmZ _ _ _ _ b3 b8 b14 b16]
     refine ⟨_, Be6 (BeU _ _ _ (A31 (A31 (A31 b3 b8) b14) b16) (.inl rfl)), hK _ ?_⟩
     clear hK K
     repeat still_step
     refine wpStill_nil ?_
     go_wp2
     go_roundw
     case rel =>
      go_light
      refine ⟨k + 1, by omega, by go_num, ?_, Below.drew (Below.setCell hk0 (Nat.le_refl _) _)⟩
      have h5 := Arr.set h2 k (.int .u32 ((rot (((x3 ^^^ x8) ^^^ x14) ^^^ x16) 1 : Nat) : Int))
      rw [BmM p k _ hlt HN.out.symm] at h5
      exact h5
     case measure => simp [intOf]; omega
   ·have HK := Lib.hid (show k = 80 by omega)
    rw [HK.out] at h2
    go_wp2
    go_meet
    case rel => exact ⟨h2, hk0⟩
 case rest =>
  clear h2 hk0
  obtain ⟨h2, hk0⟩ := hcut
  obtain ⟨wb, rfl⟩ : ∃ wb : World, wb = wc := ⟨_, rfl⟩
  have hgw : g < w.heap.size := hd.lt
  have hdc : Arr wb g 89 (A6o h.list ++ [vr, vs]) := hd.keep hk0
  have c0 : wb.cell? ⟨g, 0, none⟩ = some (.int .u32 h.a) := hdc.cell 0
  have c1 : wb.cell? ⟨g, 1, none⟩ = some (.int .u32 h.b) := hdc.cell 1
  have c2 : wb.cell? ⟨g, 2, none⟩ = some (.int .u32 h.c) := hdc.cell 2
  have c3 : wb.cell? ⟨g, 3, none⟩ = some (.int .u32 h.d) := hdc.cell 3
  have c4 : wb.cell? ⟨g, 4, none⟩ = some (.int .u32 h.e) := hdc.cell 4
  go_wp2_with fail
  (with_reducible refine (BCj _).mono ?_)
  rintro e w2 ⟨rfl, hk2⟩
  have hv0 : Arr w2 wb.heap.size 79 (A6o h.list) := Arr.keep (Arr.new wb #[.int .u32 h.a, .int .u32 h.b, .int .u32 h.c, .int .u32 h.d, .int .u32 h.e] 79) hk2
  have h22 : Arr w2 w.heap.size 104 (A6o (wl p 80) ++ BfK (80 - 80)) := (h2.alloc _).keep hk2
  have hk3 : A3o w w2 := (hk0.alloc _).trans hk2
  have hsz : wb.heap.size < w2.heap.size := hv0.lt
  have hle : w.heap.size ≤ wb.heap.size := Below.size hk0
  have hwl : wb.heap.size ≠ w.heap.size := fun e => absurd h2.lt (by omega)
  clear h2 hk0 hk2 hdc c0 c1 c2 c3 c4
  have hwl2 : BfK (80 - 80) = [] := rfl
  have hmx0 : Arr (w2.alloc (.cells #[.func (.func 65) #[] #[], .int .u32 1518500249, .func (.func 66) #[] #[], .int .u32 1859775393, .func (.func 67) #[] #[], .int .u32 2400959708, .func (.func 68) #[] #[], .int .u32 3395469782] 120)) w2.heap.size 120 BcY := Arr.new _ _ _
  have hv1 := hv0.alloc (.cells #[.func (.func 65) #[] #[], .int .u32 1518500249, .func (.func 66) #[] #[], .int .u32 1859775393, .func (.func 67) #[] #[], .int .u32 2400959708, .func (.func 68) #[] #[], .int .u32 3395469782] 120)
  have h23 := h22.alloc (.cells #[.func (.func 65) #[] #[], .int .u32 1518500249, .func (.func 66) #[] #[], .int .u32 1859775393, .func (.func 67) #[] #[], .int .u32 2400959708, .func (.func 68) #[] #[], .int .u32 3395469782] 120)
  have hk4 := hk3.alloc (.cells #[.func (.func 65) #[] #[], .int .u32 1518500249, .func (.func 66) #[] #[], .int .u32 1859775393, .func (.func 67) #[] #[], .int .u32 2400959708, .func (.func 68) #[] #[], .int .u32 3395469782] 120)
  rw [hwl2, List.append_nil] at h23
  unfold Arr at h23
  go_upto_block 2 with (with_reducible refine wpList_load_row rfl 104 _ rfl w.heap.size rfl 104 (A6o (wl p 80)).toArray (0, 0) _ h23 Tryz.underlying104 rfl (by rw [List.size_toArray, A9e, A99]; kernel_rfl) ?_)
  clear h22 h23 hwl2 hv0 hk3
  have hidx := fun (i : Nat) (hi : i < 80) (w : World) => Bhn (wl p 80) i hi (A99 p 80) w
  have HI := Lib.hid hidx; clear hidx
  go_cut [] (fun wr => Arr wr wb.heap.size 79 (A6o (Bld 0 h (wl p 80)).list) ∧ A3o w wr)
  case first =>
   generalize hW : (A6o (wl p 80)).toArray = WA at *
   have HW := Lib.hid hW; clear hW
   go_wp2
   go_loopw [8, 9, 10, 11, 82] (fun _ _ _ _ i wr => ∃ (i' : Nat) (v : V5), i' ≤ 80 ∧ i = .int .i64 i' ∧ v.ok ∧ Arr wr wb.heap.size 79 (A6o v.list) ∧ BcJ p h i' v ∧ Arr wr w2.heap.size 120 BcY ∧ A3o w wr) (fun _ _ _ _ i _ => 80 - (intOf i).toNat)
   case atStart => exact ⟨0, h, by omega, rfl, hh, hv1, BcJ.zero p h, hmx0, hk4⟩
   case round =>
    clear hv1 hmx0 hk4
    obtain ⟨i, v, hi, rfl, hv, hva, hr, hmx, hk⟩ := hrel
    by_cases hlt : i < 80
    ·obtain ⟨c0, c1, c2, c3, c4⟩ := hva.five
     have f0 := hva.frozen 0
     have f1 := hva.frozen 1
     have f2 := hva.frozen 2
     have f3 := hva.frozen 3
     have f4 := hva.frozen 4
     have hx := HI.out i hlt
     have bw := A51 p 80 i
     have HR := hr.succ hlt; clear hr
     generalize (wl p 80).getD i 0 = x at *
     obtain ⟨va, vb, vc, vd, ve⟩ := v
     obtain ⟨ba, bb, bc, bd, be⟩ := hv
     simp only at ba bb bc bd be c0 c1 c2 c3 c4
     have hs1 : wb.heap.size < wr.heap.size := hva.lt
     have hs2 : w2.heap.size < wr.heap.size := hmx.lt
     rcases (show i < 20 ∨ (20 ≤ i ∧ i < 40) ∨ (40 ≤ i ∧ i < 60) ∨ 60 ≤ i from by omega) with hq | ⟨hq, hq2⟩ | ⟨hq, hq2⟩ | hq
     ·have hq20 : (i : Int) / 20 = 0 := by omega
      have hm0 : wr.cell? ⟨w2.heap.size, 0, none⟩ = some (.func (.func 65) #[] #[]) := hmx.cell 0
      have hm1 : wr.cell? ⟨w2.heap.size, 1, none⟩ = some (.int .u32 1518500249) := hmx.cell 1
      have hrt : A8T i ⟨va, vb, vc, vd, ve⟩ x = ((((rot va 5 + sf1 vb vc vd) % 4294967296 + ve) % 4294967296 + 1518500249) % 4294967296 + x) % 4294967296 := by unfold A8T; rw [BCJ hq, BCE hq]
      have HT := Lib.hid hrt; clear hrt
      go_upto_region 14 with (fail)
      go_cut [11] (fun t wq => t = .int .u32 (A8T i ⟨va, vb, vc, vd, ve⟩ x : Nat) ∧ Arr wq wb.heap.size 79 (A6o (V5.list ⟨va, vb, vc, vd, ve⟩)) ∧ Arr wq w2.heap.size 120 BcY ∧ A3o w wq)
      case first =>
       go_quiet ((first | (go_at_call 50; exact A6Y (BeU _ _ _ ba (.inr (.inl rfl)))) | (go_at_call 65; exact A6Y (BC8 _ _ _ _ bb bc bd))))
       go_wp2
       go_meet
       case rel =>
        go_light
        refine ⟨?_, (hva.alloc _).drewN _, (hmx.alloc _).drewN _, (hk.alloc _).drewN _⟩
        have e2 : ((A8T i ⟨va, vb, vc, vd, ve⟩ x : Nat) : Int) = (((rot va 5 : Nat) : Int) + (sf1 vb vc vd : Nat) + ve + 1518500249 + x) % 4294967296 := by rw [HT.out]; omega
        rw [e2]
        exact congrArg (Value.int .u32) (by omega)
      case rest =>
       clear c0 c1 c2 c3 c4 f0 f1 f2 f3 f4 hva hmx hk hm0 hm1
       obtain ⟨rfl, hva, hmx, hk⟩ := hcut
       obtain ⟨c0, c1, c2, c3, c4⟩ := hva.five
       have f0 := hva.frozen 0
       have f1 := hva.frozen 1
       have f2 := hva.frozen 2
       have f3 := hva.frozen 3
       have f4 := hva.frozen 4
       generalize hT : A8T i ⟨va, vb, vc, vd, ve⟩ x = T at *
       have HT2 := Lib.hid hT; clear hT
       go_upto_region 15 with (fail)
       go_still_tail 11, (by kernel_rfl)
       still_call (Be6 (BeU _ _ _ bb (.inr (.inr rfl))))
       repeat still_step
       refine wpStill_nil ?_
       go_wp2
       go_roundw
       case rel =>
        go_light
        have n2 : w2.heap.size ≠ wb.heap.size := by omega
        refine ⟨i + 1, rnd i ⟨va, vb, vc, vd, ve⟩ x, by omega, by go_num, BiT i x ⟨ba, bb, bc, bd, be⟩, ?_, HR, ?_, ?_⟩
        ·have h5 := (((((hva.set 0 (.int .u32 T)).set 1 (.int .u32 va)).set 2 (.int .u32 (rot vb 30 : Nat))).set 3 (.int .u32 vc)).set 4 (.int .u32 vd)).drew
         have e3 : A6o (rnd i ⟨va, vb, vc, vd, ve⟩ x).list = [.int .u32 T, .int .u32 va, .int .u32 (rot vb 30 : Nat), .int .u32 vc, .int .u32 vd] := by rw [← HT2.out]; rfl
         rw [e3]
         exact h5
        ·exact (((((hmx.other _ _ n2).other _ _ n2).other _ _ n2).other _ _ n2).other _ _ n2).drew
        ·exact Below.drew (Below.setCell (Below.setCell (Below.setCell (Below.setCell (Below.setCell hk (p := ⟨wb.heap.size, 0, none⟩) hle _) (p := ⟨wb.heap.size, 1, none⟩) hle _) (p := ⟨wb.heap.size, 2, none⟩) hle _) (p := ⟨wb.heap.size, 3, none⟩) hle _) (p := ⟨wb.heap.size, 4, none⟩) hle _)
       case measure => simp [intOf]; omega
     ·have hq20 : (i : Int) / 20 = 1 := by omega
      have hm0 : wr.cell? ⟨w2.heap.size, 2, none⟩ = some (.func (.func 66) #[] #[]) := hmx.cell 2
      have hm1 : wr.cell? ⟨w2.heap.size, 3, none⟩ = some (.int .u32 1859775393) := hmx.cell 3
      have hrt : A8T i ⟨va, vb, vc, vd, ve⟩ x = ((((rot va 5 + sf2 vb vc vd) % 4294967296 + ve) % 4294967296 + 1859775393) % 4294967296 + x) % 4294967296 := by unfold A8T; rw [BC0 hq hq2, BC6 hq hq2]
      have HT := Lib.hid hrt; clear hrt
      go_upto_region 14 with (fail)
      go_cut [11] (fun t wq => t = .int .u32 (A8T i ⟨va, vb, vc, vd, ve⟩ x : Nat) ∧ Arr wq wb.heap.size 79 (A6o (V5.list ⟨va, vb, vc, vd, ve⟩)) ∧ Arr wq w2.heap.size 120 BcY ∧ A3o w wq)
      case first =>
       go_quiet ((first | (go_at_call 50; exact A6Y (BeU _ _ _ ba (.inr (.inl rfl)))) | (go_at_call 66; exact A6Y (BDv _ _ _ _ bb bc bd))))
       go_wp2
       go_meet
       case rel =>
        go_light
        refine ⟨?_, (hva.alloc _).drewN _, (hmx.alloc _).drewN _, (hk.alloc _).drewN _⟩
        have e2 : ((A8T i ⟨va, vb, vc, vd, ve⟩ x : Nat) : Int) = (((rot va 5 : Nat) : Int) + (sf2 vb vc vd : Nat) + ve + 1859775393 + x) % 4294967296 := by rw [HT.out]; omega
        rw [e2]
        exact congrArg (Value.int .u32) (by omega)
      case rest =>
       clear c0 c1 c2 c3 c4 f0 f1 f2 f3 f4 hva hmx hk hm0 hm1
       obtain ⟨rfl, hva, hmx, hk⟩ := hcut
       obtain ⟨c0, c1, c2, c3, c4⟩ := hva.five
       have f0 := hva.frozen 0
       have f1 := hva.frozen 1
       have f2 := hva.frozen 2
       have f3 := hva.frozen 3
       have f4 := hva.frozen 4
       generalize hT : A8T i ⟨va, vb, vc, vd, ve⟩ x = T at *
       have HT2 := Lib.hid hT; clear hT
       go_upto_region 15 with (fail)
       go_still_tail 11, (by kernel_rfl)
       still_call (Be6 (BeU _ _ _ bb (.inr (.inr rfl))))
       repeat still_step
       refine wpStill_nil ?_
       go_wp2
       go_roundw
       case rel =>
        go_light
        have n2 : w2.heap.size ≠ wb.heap.size := by omega
        refine ⟨i + 1, rnd i ⟨va, vb, vc, vd, ve⟩ x, by omega, by go_num, BiT i x ⟨ba, bb, bc, bd, be⟩, ?_, HR, ?_, ?_⟩
        ·have h5 := (((((hva.set 0 (.int .u32 T)).set 1 (.int .u32 va)).set 2 (.int .u32 (rot vb 30 : Nat))).set 3 (.int .u32 vc)).set 4 (.int .u32 vd)).drew
         have e3 : A6o (rnd i ⟨va, vb, vc, vd, ve⟩ x).list = [.int .u32 T, .int .u32 va, .int .u32 (rot vb 30 : Nat), .int .u32 vc, .int .u32 vd] := by rw [← HT2.out]; rfl
         rw [e3]
         exact h5
        ·exact (((((hmx.other _ _ n2).other _ _ n2).other _ _ n2).other _ _ n2).other _ _ n2).drew
        ·exact Below.drew (Below.setCell (Below.setCell (Below.setCell (Below.setCell (Below.setCell hk (p := ⟨wb.heap.size, 0, none⟩) hle _) (p := ⟨wb.heap.size, 1, none⟩) hle _) (p := ⟨wb.heap.size, 2, none⟩) hle _) (p := ⟨wb.heap.size, 3, none⟩) hle _) (p := ⟨wb.heap.size, 4, none⟩) hle _)
       case measure => simp [intOf]; omega
     ·have hq20 : (i : Int) / 20 = 2 := by omega
      have hm0 : wr.cell? ⟨w2.heap.size, 4, none⟩ = some (.func (.func 67) #[] #[]) := hmx.cell 4
      have hm1 : wr.cell? ⟨w2.heap.size, 5, none⟩ = some (.int .u32 2400959708) := hmx.cell 5
      have hrt : A8T i ⟨va, vb, vc, vd, ve⟩ x = ((((rot va 5 + sf3 vb vc vd) % 4294967296 + ve) % 4294967296 + 2400959708) % 4294967296 + x) % 4294967296 := by unfold A8T; rw [BCT hq hq2, BCz hq hq2]
      have HT := Lib.hid hrt; clear hrt
      go_upto_region 14 with (fail)
      go_cut [11] (fun t wq => t = .int .u32 (A8T i ⟨va, vb, vc, vd, ve⟩ x : Nat) ∧ Arr wq wb.heap.size 79 (A6o (V5.list ⟨va, vb, vc, vd, ve⟩)) ∧ Arr wq w2.heap.size 120 BcY ∧ A3o w wq)
      case first =>
       go_quiet ((first | (go_at_call 50; exact A6Y (BeU _ _ _ ba (.inr (.inl rfl)))) | (go_at_call 67; exact A6Y (BC9 _ _ _ _ bb bc bd))))
       go_wp2
       go_meet
       case rel =>
        go_light
        refine ⟨?_, (hva.alloc _).drewN _, (hmx.alloc _).drewN _, (hk.alloc _).drewN _⟩
        have e2 : ((A8T i ⟨va, vb, vc, vd, ve⟩ x : Nat) : Int) = (((rot va 5 : Nat) : Int) + (sf3 vb vc vd : Nat) + ve + 2400959708 + x) % 4294967296 := by rw [HT.out]; omega
        rw [e2]
        exact congrArg (Value.int .u32) (by omega)
      case rest =>
       clear c0 c1 c2 c3 c4 f0 f1 f2 f3 f4 hva hmx hk hm0 hm1
       obtain ⟨rfl, hva, hmx, hk⟩ := hcut
       obtain ⟨c0, c1, c2, c3, c4⟩ := hva.five
       have f0 := hva.frozen 0
       have f1 := hva.frozen 1
       have f2 := hva.frozen 2
       have f3 := hva.frozen 3
       have f4 := hva.frozen 4
       generalize hT : A8T i ⟨va, vb, vc, vd, ve⟩ x = T at *
       have HT2 := Lib.hid hT; clear hT
       go_upto_region 15 with (fail)
       go_still_tail 11, (by kernel_rfl)
       still_call (Be6 (BeU _ _ _ bb (.inr (.inr rfl))))
       repeat still_step
       refine wpStill_nil ?_
       go_wp2
       go_roundw
       case rel =>
        go_light
        have n2 : w2.heap.size ≠ wb.heap.size := by omega
        refine ⟨i + 1, rnd i ⟨va, vb, vc, vd, ve⟩ x, by omega, by go_num, BiT i x ⟨ba, bb, bc, bd, be⟩, ?_, HR, ?_, ?_⟩
        ·have h5 := (((((hva.set 0 (.int .u32 T)).set 1 (.int .u32 va)).set 2 (.int .u32 (rot vb 30 : Nat))).set 3 (.int .u32 vc)).set 4 (.int .u32 vd)).drew
         have e3 : A6o (rnd i ⟨va, vb, vc, vd, ve⟩ x).list = [.int .u32 T, .int .u32 va, .int .u32 (rot vb 30 : Nat), .int .u32 vc, .int .u32 vd] := by rw [← HT2.out]; rfl
         rw [e3]
         exact h5
        ·exact (((((hmx.other _ _ n2).other _ _ n2).other _ _ n2).other _ _ n2).other _ _ n2).drew
        ·exact Below.drew (Below.setCell (Below.setCell (Below.setCell (Below.setCell (Below.setCell hk (p := ⟨wb.heap.size, 0, none⟩) hle _) (p := ⟨wb.heap.size, 1, none⟩) hle _) (p := ⟨wb.heap.size, 2, none⟩) hle _) (p := ⟨wb.heap.size, 3, none⟩) hle _) (p := ⟨wb.heap.size, 4, none⟩) hle _)
       case measure => simp [intOf]; omega
     ·have hq20 : (i : Int) / 20 = 3 := by omega
      have hm0 : wr.cell? ⟨w2.heap.size, 6, none⟩ = some (.func (.func 68) #[] #[]) := hmx.cell 6
      have hm1 : wr.cell? ⟨w2.heap.size, 7, none⟩ = some (.int .u32 3395469782) := hmx.cell 7
      have hrt : A8T i ⟨va, vb, vc, vd, ve⟩ x = ((((rot va 5 + sf2 vb vc vd) % 4294967296 + ve) % 4294967296 + 3395469782) % 4294967296 + x) % 4294967296 := by unfold A8T; rw [BCu hq, BCR hq]
      have HT := Lib.hid hrt; clear hrt
      go_upto_region 14 with (fail)
      go_cut [11] (fun t wq => t = .int .u32 (A8T i ⟨va, vb, vc, vd, ve⟩ x : Nat) ∧ Arr wq wb.heap.size 79 (A6o (V5.list ⟨va, vb, vc, vd, ve⟩)) ∧ Arr wq w2.heap.size 120 BcY ∧ A3o w wq)
      case first =>
       go_quiet ((first | (go_at_call 50; exact A6Y (BeU _ _ _ ba (.inr (.inl rfl)))) | (go_at_call 68; exact A6Y (BDm _ _ _ _ bb bc bd))))
       go_wp2
       go_meet
       case rel =>
        go_light
        refine ⟨?_, (hva.alloc _).drewN _, (hmx.alloc _).drewN _, (hk.alloc _).drewN _⟩
        have e2 : ((A8T i ⟨va, vb, vc, vd, ve⟩ x : Nat) : Int) = (((rot va 5 : Nat) : Int) + (sf2 vb vc vd : Nat) + ve + 3395469782 + x) % 4294967296 := by rw [HT.out]; omega
        rw [e2]
        exact congrArg (Value.int .u32) (by omega)
      case rest =>
       clear c0 c1 c2 c3 c4 f0 f1 f2 f3 f4 hva hmx hk hm0 hm1
       obtain ⟨rfl, hva, hmx, hk⟩ := hcut
       obtain ⟨c0, c1, c2, c3, c4⟩ := hva.five
       have f0 := hva.frozen 0
       have f1 := hva.frozen 1
       have f2 := hva.frozen 2
       have f3 := hva.frozen 3
       have f4 := hva.frozen 4
       generalize hT : A8T i ⟨va, vb, vc, vd, ve⟩ x = T at *
       have HT2 := Lib.hid hT; clear hT
       go_upto_region 15 with (fail)
       go_still_tail 11, (by kernel_rfl)
       still_call (Be6 (BeU _ _ _ bb (.inr (.inr rfl))))
       repeat still_step
       refine wpStill_nil ?_
       go_wp2
       go_roundw
       case rel =>
        go_light
        have n2 : w2.heap.size ≠ wb.heap.size := by omega
        refine ⟨i + 1, rnd i ⟨va, vb, vc, vd, ve⟩ x, by omega, by go_num, BiT i x ⟨ba, bb, bc, bd, be⟩, ?_, HR, ?_, ?_⟩
        ·have h5 := (((((hva.set 0 (.int .u32 T)).set 1 (.int .u32 va)).set 2 (.int .u32 (rot vb 30 : Nat))).set 3 (.int .u32 vc)).set 4 (.int .u32 vd)).drew
         have e3 : A6o (rnd i ⟨va, vb, vc, vd, ve⟩ x).list = [.int .u32 T, .int .u32 va, .int .u32 (rot vb 30 : Nat), .int .u32 vc, .int .u32 vd] := by rw [← HT2.out]; rfl
         rw [e3]
         exact h5
        ·exact (((((hmx.other _ _ n2).other _ _ n2).other _ _ n2).other _ _ n2).other _ _ n2).drew
        ·exact Below.drew (Below.setCell (Below.setCell (Below.setCell (Below.setCell (Below.setCell hk (p := ⟨wb.heap.size, 0, none⟩) hle _) (p := ⟨wb.heap.size, 1, none⟩) hle _) (p := ⟨wb.heap.size, 2, none⟩) hle _) (p := ⟨wb.heap.size, 3, none⟩) hle _) (p := ⟨wb.heap.size, 4, none⟩) hle _)
       case measure => simp [intOf]; omega
    ·have HK := Lib.hid (show i = 80 by omega)
     rw [HK.out] at hr
     have hva' := hva
     rw [hr.last] at hva'
     clear hva hr
     go_wp2
     go_meet
     case rel => exact ⟨hva', hk⟩
  case rest =>
   clear hv1 hmx0 hk4 HI
   obtain ⟨hva, hk⟩ := hcut
   have hV : (Bld 0 h (wl p 80)).ok := Bol _ _ _ hh
   have hB : blk h p = BvU h (Bld 0 h (wl p 80)) := rfl
   have HB := Lib.hid hB; clear hB
   generalize Bld 0 h (wl p 80) = V at *
   go_wp2
   go_loopw [12, 123] (fun _ i wr => ∃ k : Nat, k ≤ 5 ∧ i = .int .i64 k ∧ Arr wr wb.heap.size 79 (A6o V.list) ∧ Arr wr g 89 (A6o (Bt8 h V k) ++ [vr, vs]) ∧ w.grownBy wr (some g)) (fun _ i _ => 5 - (intOf i).toNat)
   case atStart => exact ⟨0, by omega, rfl, hva, hd.keep hk, ⟨hk.os, hk.tape, hk.output, hk.size, fun j hj _ => hk.block j hj⟩⟩
   case round =>
    clear hva hk
    obtain ⟨k, hk, rfl, hva, hdr, hgr⟩ := hrel
    by_cases hlt : k < 5
    ·have cv : wr.cell? ⟨wb.heap.size, k, none⟩ = some (.int .u32 ((V.list.getD k 0 : Nat) : Int)) := by rw [hva.cell]; exact Be3 V k hlt
     have ch : wr.cell? ⟨g, k, none⟩ = some (.int .u32 ((h.list.getD k 0 : Nat) : Int)) := by
      rw [hdr.cell, List.getElem?_append_left (by rw [A9e, BhG]; exact hlt)]; exact BmP h V k hlt
     have fh := hdr.frozen k
     have b1 := hV.get k
     have b2 := hh.get k
     have hs := BmH h V k hlt
     have HS := Lib.hid hs; clear hs
     generalize V.list.getD k 0 = x at *
     generalize h.list.getD k 0 = y at *
     have hki : (k : Int) < 5 := by omega
     go_upto_region 20 with (fail)
     go_still_tail 13, (by kernel_rfl)
     go_wp2
     go_roundw
     case rel =>
      go_light
      have ne1 : wb.heap.size ≠ g := by omega
      refine ⟨k + 1, by omega, by go_num, (hva.other _ _ ne1).drew, ?_, ?_⟩
      ·have h5 := (hdr.set k (.int .u32 (((y + x) % 4294967296 : Nat) : Int))).drew
       rw [List.set_append_left _ _ (by rw [A9e, BhG]; exact hlt), HS.out, show (((y + x) % 4294967296 : Nat) : Int) = ((y : Int) + x) % 4294967296 from by omega] at h5
       exact h5
      ·exact BpN (BkY hgr (p := ⟨g, k, none⟩) (.inl rfl) _)
     case measure => simp [intOf]; omega
    ·have HK := Lib.hid (show k = 5 by omega)
     rw [HK.out, BkP] at hdr
     go_wp2
     go_end0
     rw [HB.out]
     exact ⟨rfl, hdr, hgr⟩
end Go.Proofs.YtmlompedpahkjaaGreatDoor.Kit


namespace Go.Proofs.YtmlompedpahkjaaGreatDoor.Kit
open Go.RowKit
set_option linter.unusedVariables false

/-- The slice value v has n elements of type e (size cells each): the cells xs; its block is the call's own (from base on), not frozen, and so is its spare room. -/
def Seg (w : World) (base : Nat) (e : TypeId) (size : Nat) (v : Value) (n : Nat) (xs : List Value) : Prop :=
 xs.length = n * size ∧
 ((v = .slice none 0 0 ∧ n = 0) ∨
 ∃ g off cap cur, v = .slice (some ⟨g, off, none⟩) n cap ∧ base ≤ g ∧ w.heap[g]? = some (.cells cur e (0, 0)) ∧ n ≤ cap ∧ cap ≤ maxLen ∧ off + cap * size ≤ cur.size ∧ (cur.toList.drop off).take (n * size) = xs)

section
variable {w : World} {base : Nat} {e : TypeId} {size : Nat} {v : Value} {n : Nat} {xs : List Value}

theorem Seg.nil (w : World) (base : Nat) (e : TypeId) (size : Nat) : Seg w base e size (.slice none 0 0) 0 [] := ⟨by simp, .inl ⟨rfl, rfl⟩⟩

theorem Seg.lt (h : Seg w base e size v n xs) : ∀ k, v.ownBlock = some k → base ≤ k ∧ k < w.heap.size := by
 intro k hk
 rcases h.2 with ⟨rfl, _⟩ | ⟨g, off, cap, cur, rfl, hb, hg, _⟩
 ·simp [Value.ownBlock] at hk
 ·simp [Value.ownBlock] at hk
  subst hk
  exact ⟨hb, (Array.getElem?_eq_some_iff.1 hg).1⟩

theorem Seg.kept {w' : World} {row : Option Nat} (h : Seg w base e size v n xs) (hg : w.grownBy w' row) (hne : v.ownBlock = none ∨ v.ownBlock ≠ row) : Seg w' base e size v n xs := by
 refine ⟨h.1, ?_⟩
 rcases h.2 with hn | ⟨g, off, cap, cur, rfl, hb, hgg, rest⟩
 ·exact .inl hn
 ·refine .inr ⟨g, off, cap, cur, rfl, hb, ?_, rest⟩
  rw [hg.block g (Array.getElem?_eq_some_iff.1 hgg).1 (by simpa [Value.ownBlock] using hne)]
  exact hgg

theorem Seg.keep {w' : World} (h : Seg w base e size v n xs) (k : A3o w w') : Seg w' base e size v n xs := by
 refine ⟨h.1, ?_⟩
 rcases h.2 with hn | ⟨g, off, cap, cur, rfl, hb, hgg, rest⟩
 ·exact .inl hn
 ·refine .inr ⟨g, off, cap, cur, rfl, hb, ?_, rest⟩
  rw [Below.block k g (Array.getElem?_eq_some_iff.1 hgg).1]
  exact hgg

/-- A write into another block. -/
theorem Seg.other {w' : World} (h : Seg w base e size v n xs) {g : Nat} (hb : ∀ k, k < w.heap.size → k ≠ g → w'.heap[k]? = w.heap[k]?) (hne : v.ownBlock ≠ some g) : Seg w' base e size v n xs := by
 refine ⟨h.1, ?_⟩
 rcases h.2 with hn | ⟨k, off, cap, cur, rfl, hbk, hgg, rest⟩
 ·exact .inl hn
 ·refine .inr ⟨k, off, cap, cur, rfl, hbk, ?_, rest⟩
  rw [hb k (Array.getElem?_eq_some_iff.1 hgg).1 (fun e => hne (by rw [e]; rfl))]
  exact hgg

theorem Seg.alloc (h : Seg w base e size v n xs) (o : Obj) : Seg (w.alloc o) base e size v n xs := h.keep ((A3o.refl w).alloc o)
theorem Seg.drewN (h : Seg w base e size v n xs) (k : Nat) : Seg (w.drewN k) base e size v n xs := h

theorem Seg.mono {base' : Nat} (h : Seg w base e size v n xs) (hb : base' ≤ base) : Seg w base' e size v n xs := by
 refine ⟨h.1, ?_⟩
 rcases h.2 with hn | ⟨k, off, cap, cur, rfl, hbk, rest⟩
 ·exact .inl hn
 ·exact .inr ⟨k, off, cap, cur, rfl, by omega, rest⟩

/-- A new block, of which the first n elements are told. -/
theorem Seg.made (w : World) (cur : Array Value) (n cap : Nat) (hb : base ≤ w.heap.size) (hn : n ≤ cap) (hm : cap ≤ maxLen) (hs : cap * size ≤ cur.size) :
  Seg (w.alloc (.cells cur e)) base e size (.slice (some ⟨w.heap.size, 0, none⟩) n cap) n (cur.toList.take (n * size)) := by
 have h1 : n * size ≤ cap * size := Nat.mul_le_mul_right _ hn
 exact ⟨by simp; omega, .inr ⟨w.heap.size, 0, cap, cur, rfl, hb, heap_alloc_new w _, hn, hm, by omega, by simp⟩⟩

theorem Seg.cells (h : Seg w base e size v n xs) {g off cap m : Nat} (hv : v = .slice (some ⟨g, off, none⟩) m cap) : ∀ j u, xs[j]? = some u → w.cell? ⟨g, off + j, none⟩ = some u := by
 intro j u hu
 rcases h.2 with ⟨rfl, _⟩ | ⟨g', off', cap', cur, rfl, _, hgg, _, _, hfit, htake⟩
 ·cases hv
 ·simp only [Value.slice.injEq, Option.some.injEq, Addr.mk.injEq, and_true] at hv
  obtain ⟨⟨rfl, rfl⟩, _, _⟩ := hv
  rw [cell_of_row w g' _ cur e (0, 0) hgg]
  rw [← htake, List.getElem?_take] at hu
  split at hu
  ·rw [List.getElem?_drop] at hu; simpa using hu
  ·cases hu

theorem Seg.frozen (h : Seg w base e size v n xs) {g off cap m : Nat} (hv : v = .slice (some ⟨g, off, none⟩) m cap) (j : Nat) : w.frozen? ⟨g, j, none⟩ = false := by
 rcases h.2 with ⟨rfl, _⟩ | ⟨g', off', cap', cur, rfl, _, hgg, _⟩
 ·cases hv
 ·simp only [Value.slice.injEq, Option.some.injEq, Addr.mk.injEq, and_true] at hv
  obtain ⟨⟨rfl, rfl⟩, _, _⟩ := hv
  exact frozen_of_row _ _ _ _ _ hgg

/-- The shape of the value. -/
theorem Seg.shape (h : Seg w base e size v n xs) : (v = .slice none 0 0 ∧ n = 0 ∧ xs = []) ∨ ∃ g off cap, v = .slice (some ⟨g, off, none⟩) n cap ∧ base ≤ g ∧ g < w.heap.size ∧ n ≤ cap ∧ cap ≤ 9223372036854775807 := by
 rcases h.2 with ⟨rfl, rfl⟩ | ⟨g, off, cap, cur, rfl, hb, hgg, hn, hc, _⟩
 ·exact .inl ⟨rfl, rfl, List.eq_nil_of_length_eq_zero (by simpa using h.1)⟩
 ·unfold maxLen at hc
  exact .inr ⟨g, off, cap, rfl, hb, (Array.getElem?_eq_some_iff.1 hgg).1, hn, by omega⟩

/-- s[k:]. -/
theorem Seg.drop (h : Seg w base e size v n xs) {g off cap : Nat} (hv : v = .slice (some ⟨g, off, none⟩) n cap) (k : Nat) (hk : k ≤ n) : Seg w base e size (.slice (some ⟨g, off + k * size, none⟩) (n - k) (cap - k)) (n - k) (xs.drop (k * size)) := by
 have hx := h.1
 rcases h.2 with ⟨rfl, _⟩ | ⟨g', off', cap', cur, rfl, hb, hgg, hnc, hcm, hfit, htake⟩
 ·cases hv
 ·simp only [Value.slice.injEq, Option.some.injEq, Addr.mk.injEq, and_true] at hv
  obtain ⟨⟨rfl, rfl⟩, _, rfl⟩ := hv
  have e1 : cap' * size = (cap' - k) * size + k * size := by rw [← Nat.add_mul]; congr 1; omega
  have e2 : n * size = (n - k) * size + k * size := by rw [← Nat.add_mul]; congr 1; omega
  refine ⟨by rw [List.length_drop]; omega, .inr ⟨g', off' + k * size, cap' - k, cur, rfl, hb, hgg, by omega, by omega, by omega, ?_⟩⟩
  rw [← htake, List.drop_take, List.drop_drop]
  congr 1
  omega

/-- s[:k]. -/
theorem Seg.take (h : Seg w base e size v n xs) {g off cap : Nat} (hv : v = .slice (some ⟨g, off, none⟩) n cap) (k : Nat) (hk : k ≤ n) : Seg w base e size (.slice (some ⟨g, off, none⟩) k cap) k (xs.take (k * size)) := by
 have hx := h.1
 rcases h.2 with ⟨rfl, _⟩ | ⟨g', off', cap', cur, rfl, hb, hgg, hnc, hcm, hfit, htake⟩
 ·cases hv
 ·simp only [Value.slice.injEq, Option.some.injEq, Addr.mk.injEq, and_true] at hv
  obtain ⟨⟨rfl, rfl⟩, _, rfl⟩ := hv
  have e2 : k * size ≤ n * size := Nat.mul_le_mul_right _ hk
  refine ⟨by rw [List.length_take]; omega, .inr ⟨g', off', cap', cur, rfl, hb, hgg, by omega, by omega, by omega, ?_⟩⟩
  rw [← htake, List.take_take, Nat.min_eq_left e2]
end

/-- Cells laid over a block. -/
theorem A9C (g : Nat) (t : TypeId) : ∀ (vs : List Value) (o : Nat) (cs : Array Value) (w : World), w.heap[g]? = some (.cells cs t (0, 0)) → o + vs.length ≤ cs.size →
  ∃ cs' : Array Value, (w.setCells g o vs).heap[g]? = some (.cells cs' t (0, 0)) ∧ cs'.size = cs.size ∧ cs'.toList.take o = cs.toList.take o ∧ (cs'.toList.drop o).take vs.length = vs ∧ cs'.toList.drop (o + vs.length) = cs.toList.drop (o + vs.length) := by
 intro vs
 induction vs with
 | nil => intro o cs w h _; exact ⟨cs, h, rfl, rfl, by simp, rfl⟩
 | cons v r ih =>
  intro o cs w h hfit
  simp only [List.length_cons] at hfit
  obtain ⟨cs', h1, h2, h3, h4, h5⟩ := ih (o + 1) (cs.setIfInBounds o v) (w.setCell ⟨g, o, none⟩ v) (heap_setCell_same _ _ _ _ _ _ h) (by simp; omega)
  simp only [Array.size_setIfInBounds] at h2
  have hl : (cs.setIfInBounds o v).toList = cs.toList.set o v := by simp
  rw [hl] at h3 h5
  have ho : o < cs'.toList.length := by simp; omega
  have hget : cs'.toList[o]? = some v := by
   have e1 : (cs'.toList.take (o + 1))[o]? = cs'.toList[o]? := by rw [List.getElem?_take, if_pos (by omega)]
   rw [← e1, h3, List.getElem?_take, if_pos (by omega), List.getElem?_set]
   simp; omega
  refine ⟨cs', h1, h2, ?_, ?_, ?_⟩
  ·have e2 : (cs'.toList.take (o + 1)).take o = cs'.toList.take o := by rw [List.take_take]; congr 1; omega
   rw [← e2, h3, List.take_take, Nat.min_eq_left (by omega), List.take_set_of_le (by omega)]
  ·rw [List.drop_eq_getElem_cons ho]
   have e3 : cs'.toList[o] = v := by rw [List.getElem?_eq_getElem ho] at hget; exact Option.some.inj hget
   rw [e3, List.length_cons, List.take_succ_cons, h4]
  ·rw [List.length_cons, show o + (r.length + 1) = o + 1 + r.length from by omega, h5, List.drop_set_of_lt (by omega)]

section
variable {P : Program} (w : World)

theorem BdK (base : Nat) (t tx ty e : TypeId) (z : Value) (size bytes : Nat) (ht : P.underlying t = some (.slice e))
  (hinfo : (P.info? e).map (fun i => (i.zero, i.size, i.bytes)) = some (some z, size, bytes)) (hzs : z.cells.size = size)
  (v : Value) (n : Nat) (xs : List Value) (hown : Seg w base e size v n xs) (x : Value) (m : Nat) (news : List Value) (hsrc : Src P size tx x m news w)
  (h63 : n + m ≤ maxLen) (hbytes : (n + m) * bytes ≤ 140737488355328) (hbase : base ≤ w.heap.size) :
  ∃ v' w', (Builtin.append_ #[t, tx] ty #[v, x]).run P w = .ok v' w' ∧ Seg w' base e size v' (n + m) (xs ++ news) ∧ w.grownBy w' v.ownBlock ∧
   (v'.ownBlock = v.ownBlock ∨ v'.ownBlock = some w.heap.size) := by
 obtain ⟨i, hi, hzz⟩ := Option.map_eq_some_iff.1 hinfo
 simp only [Prod.mk.injEq] at hzz
 obtain ⟨hz, rfl, rfl⟩ := hzz
 have hlen : (xs ++ news).length = (n + m) * i.size := by rw [List.length_append, hown.1, hsrc.newsLen, Nat.add_mul]
 have hsmall : ((n + m : Nat) : Int) ≤ 9223372036854775807 := by simp only [maxLen] at h63; omega
 have grow : ∀ (b : Option Addr) (cap : Nat), cap < n + m → (Builtin.firstCells i.size n (.slice b n cap)).run P w.drew = .ok xs.toArray w.drew → v = .slice b n cap →
   ∃ v' w', (Builtin.append_ #[t, tx] ty #[v, x]).run P w = .ok v' w' ∧ Seg w' base e i.size v' (n + m) (xs ++ news) ∧ w.grownBy w' v.ownBlock ∧ (v'.ownBlock = v.ownBlock ∨ v'.ownBlock = some w.heap.size) := by
  rintro b cap hc hold rfl
  have hr := run_append_grow_src (P := P) w t tx ty e i z ht hi hz b n cap xs hold x m news hsrc hc hsmall (growslice_fits hc hbytes)
  refine ⟨_, _, hr, ?_, ⟨rfl, rfl, rfl, by simp, fun k hk _ => Below.heap_alloc w.drew _ k hk⟩, .inr rfl⟩
  ·have hge := grownCap_ge w (n + m) cap e
   have hcm := grownCap_le_maxLen w (n + m) cap e h63
   have hs : grownCap w (n + m) cap e * i.size ≤ ((xs ++ news).toArray ++ Builtin.zeroCells z.cells (grownCap w (n + m) cap e - (n + m))).size := by
    simp only [Array.size_append, List.size_toArray, size_zeroCells, hzs, hlen, ← Nat.add_mul]
    rw [show n + m + (grownCap w (n + m) cap e - (n + m)) = grownCap w (n + m) cap e from by omega]
    exact Nat.le_refl _
   have h1 := Seg.made (base := base) (e := e) (size := i.size) w.drew _ (n + m) _ hbase hge hcm hs
   have h2 : ((xs ++ news).toArray ++ Builtin.zeroCells z.cells (grownCap w (n + m) cap e - (n + m))).toList.take ((n + m) * i.size) = xs ++ news := by
    rw [Array.toList_append, ← hlen]; exact List.take_left
   rw [h2] at h1
   exact h1
 rcases hown.2 with ⟨rfl, rfl⟩ | ⟨g, off, cap, cur, rfl, hbg, hg, hnc, hcm, hcs, htake⟩
 ·have hx : xs = [] := List.eq_nil_of_length_eq_zero (by simpa using hown.1)
  subst hx
  by_cases hm : m = 0
  ·subst hm
   have hn : news = [] := List.eq_nil_of_length_eq_zero (by simpa using hsrc.newsLen)
   subst hn
   have hfc := hsrc.cells
   refine ⟨.slice none 0 0, w, ?_, Seg.nil w base e i.size, ⟨rfl, rfl, rfl, Nat.le_refl _, fun _ _ _ => rfl⟩, .inl rfl⟩
   rcases hsrc.kind with ⟨e', hk⟩ | hk <;> simp [Builtin.append_, run_underlying ht, run_underlying hk, sizeOf, typeInfo, hi, hsrc.len, hfc]
  ·exact grow none 0 (by omega) (run_firstCells_none w.drew i.size 0 0 0) rfl
 ·by_cases hroom : n + m ≤ cap
  ·have hle : (n + m) * i.size ≤ cap * i.size := Nat.mul_le_mul_right _ hroom
   have hnl := hsrc.newsLen
   have hsplit : (n + m) * i.size = n * i.size + m * i.size := Nat.add_mul ..
   have hc : ∀ j, j < news.length → (w.cell? ⟨g, off + n * i.size + j, none⟩).isSome = true := fun j hj => by
    rw [cell_of_row w g _ cur e (0, 0) hg, Array.getElem?_eq_getElem (by omega)]; rfl
   have hf : ∀ j, j < news.length → w.frozen? ⟨g, off + n * i.size + j, none⟩ = false := fun j _ => frozen_of_row _ _ _ _ _ hg
   have hr := run_append_room_src (P := P) w t tx ty e i ht hi g off n cap x m news hsrc hroom hc hf
   obtain ⟨cs', h1, h2, h3, h4, h5⟩ := A9C g e news (off + n * i.size) cur w hg (by omega)
   refine ⟨_, _, hr, ⟨hlen, .inr ⟨g, off, cap, cs', rfl, hbg, h1, hroom, hcm, by omega, ?_⟩⟩, ?_, .inl rfl⟩
   ·have e1 : cs'.toList.drop off = (cs'.toList.take (off + n * i.size)).drop off ++ cs'.toList.drop (off + n * i.size) := by
     rw [List.drop_take, show off + n * i.size - off = n * i.size from by omega]
     have e2 : cs'.toList.drop (off + n * i.size) = (cs'.toList.drop off).drop (n * i.size) := by rw [List.drop_drop]
     rw [e2, List.take_append_drop]
    have e3 : (cur.toList.take (off + n * i.size)).drop off = xs := by
     rw [List.drop_take, show off + n * i.size - off = n * i.size from by omega]; exact htake
    rw [e1, h3, e3, hsplit, List.take_append, hown.1, List.take_of_length_le (by rw [hown.1]; omega), show n * i.size + m * i.size - n * i.size = news.length from by omega, h4]
   ·have hgl := (Array.getElem?_eq_some_iff.1 hg).1
    refine ⟨World.os_setCells .., ?_, World.output_setCells .., ?_, fun k hk hne => World.heap_setCells_other w g _ _ hk (fun e => hne (by rw [e]; rfl))⟩
    ·clear hr h1 hsrc hnl hc hf h4 h5 h3 hlen
     suffices h : ∀ (vs : List Value) (o : Nat) (w : World), (w.setCells g o vs).tape = w.tape from h _ _ _
     intro vs
     induction vs with
     | nil => intro o w; rfl
     | cons v r ih => intro o w; exact (ih _ _).trans rfl
    ·clear hr h1 hsrc hnl hc hf h4 h5 h3 hlen
     suffices h : ∀ (vs : List Value) (o : Nat) (w : World), w.heap.size ≤ (w.setCells g o vs).heap.size from h _ _ _
     intro vs
     induction vs with
     | nil => intro o w; exact Nat.le_refl _
     | cons v r ih => intro o w; exact Nat.le_trans (by simp [World.setCell]) (ih _ _)
  ·refine grow (some ⟨g, off, none⟩) cap (by omega) (run_firstCells_some w.drew i.size n ⟨g, off, none⟩ n cap xs hown.1 ?_) rfl
   intro j u hu
   rw [show (⟨g, off, none⟩ : Addr).add j = ⟨g, off + j, none⟩ from by simp [Addr.add]]
   exact hown.cells rfl j u hu

theorem A4u {ops : Array Oper} {rest : List Oper} {o : Oper} {a : Act} {Q : Exit → Act → World → Prop} (hgd : o.guard = none) (s x : Operand) (t tx : TypeId)
  (ho : o.op = .call { callee := .builtin .append, args := #[s, x], argTypes := #[t, tx] })
  (base : Nat) (e : TypeId) (z : Value) (size bytes : Nat) (ht : P.underlying t = some (.slice e))
  (hinfo : (P.info? e).map (fun i => (i.zero, i.size, i.bytes)) = some (some z, size, bytes)) (hzs : z.cells.size = size)
  (v : Value) (n : Nat) (xs : List Value) (hs : a.eval s = v) (hown : Seg w base e size v n xs)
  (vx : Value) (m : Nat) (news : List Value) (hx : a.eval x = vx) (hsrc : Src P size tx vx m news w)
  (h63 : n + m ≤ maxLen) (hbytes : (n + m) * bytes ≤ 140737488355328) (hbase : base ≤ w.heap.size)
  (h : ∀ v' w', Seg w' base e size v' (n + m) (xs ++ news) → w.grownBy w' v.ownBlock → (v'.ownBlock = v.ownBlock ∨ v'.ownBlock = some w.heap.size) → wpList P ops Q rest (a.put o.dst v') w') : wpList P ops Q (o :: rest) a w :=
 wpList_plain hgd fun K hK => by
  obtain ⟨v', w', hr, h2, h3, h4⟩ := BdK (P := P) w base t tx o.type e z size bytes ht hinfo hzs v n xs hown vx m news hsrc h63 hbytes hbase
  unfold Oper.wp execOp
  simp only [ho, resolve, invoke, builtin, Sem.run_bind, Sem.run_pure, Result.andThen_ok, List.map_toArray, List.map_cons, List.map_nil, hs, hx, hr]
  exact hK _ _ (h v' w' h2 h3 h4)

/-- Bytes that are read, aS a source. -/
theorem Bs.srcOf {w : World} {a : Option Addr} {l : List UInt8} (h : Bs w a l) {tx e' : TypeId} (hk : P.underlying tx = some (.slice e')) (c : Nat) (hn : a = none → c = c) : Src P 1 tx (.slice a l.length c) l.length (bv l) w := by
 cases a with
 | some ad =>
  refine Src.ofSlice w hk ad _ c (bv l) (by simp) (fun j u hu => ?_) (Be4 l)
  by_cases hp : 0 < (bv l).length
  ·obtain ⟨ad', e1, h1⟩ := h.src hp
   cases e1; exact h1 j u hu
  ·rw [List.getElem?_eq_none (by omega)] at hu; cases hu
 | none =>
  have hl : l = [] := by
   cases l with
   | nil => rfl
   | cons x l => obtain ⟨b, off, e, _⟩ := h 0 (by simp); cases e
  subst hl
  exact Src.ofNil w hk c
end

end Go.Proofs.YtmlompedpahkjaaGreatDoor.Kit

