/- What the proof of ObjectTreesCard stands on (texts merged; names shortened by a program): part 5. -/
import Derived.Test.YtliaddbbmnfioaaGreatDoorQD
import Derived.ProofKit
import Derived.OpenShut
import Derived.ShutString
import Derived.ChangeOld
import Derived.Below
import Derived.Carry
import Derived.SizedLaws
import Derived.Lib.LaidTab
import Derived.LaidHandle
import Derived.Shelf.Strings.Trim
import Derived.Shelf.Small.Utf8
import Derived.Shelf.Small.Bits
import Derived.Shelf.Small.Strs
import Derived.Shelf.Small.Wraps
import Derived.Shelf.Strconv.Itoa0
import Derived.Shelf.Strconv.Itoa1
import Derived.Shelf.LaysM
import Derived.Shelf.Strconv.Itoa2
import Derived.Shelf.Strconv.Itoa3
import Derived.Shelf.Strconv.Itoa4
import Derived.Shelf.Strconv.Clone
import Derived.Shelf.Strconv.SyntaxError
import Derived.Shelf.LaysC
import Derived.Shelf.Strconv.ToError
import Derived.Shelf.Strconv.Lower
import Derived.Shelf.Strconv.ParseUint10
import Derived.Shelf.Strconv.ParseUint10Empty
import Derived.Shelf.Strconv.ParseUint10Any
import Derived.Shelf.Strconv.RangeError
import Derived.Shelf.Strconv.ToErrorRange
import Derived.Shelf.Strings.Search1
import Derived.Shelf.Strings.Search2
import Derived.Shelf.Strings.Search3
import Derived.Shelf.Strings.Cut
import Derived.Shelf.Strings.Shaped
import Derived.Shelf.Strings.Prefix
import Derived.Shelf.Strings.Runes
import Derived.Shelf.Strings.IndexAny
import Derived.Shelf.Strings.AsciiSet
import Derived.Shelf.Strings.IndexAnyAll
import Derived.Shelf.Unicode.DecodeSlow
import Derived.Shelf.Bytes.SlIndexSmall
import Derived.Shelf.Bytes.SlIndexAt
import Derived.Shelf.Bytes.Small
import Derived.Shelf.Bytes.IndexByte
import Derived.Test.YtliaddbbmnfioaaGreatDoorProg
import Derived.WalkKit
import Derived.Deep.QuietTactic
import Derived.BigQuiet
import Derived.Sort.Walk0
import Derived.Lib.Bytealg
import Derived.KernelRfl
import Derived.Shelf.Strings.SlTrimAscii
import Derived.Laws.RangeAny
import Derived.Lib.TrimU
import Derived.Lib.ItoaNum
import Derived.Lib.ItoaLen
import Derived.Lib.BytesEntry
import Derived.Lib.IndexMore
import Derived.Lib.TrimByte
namespace Go.Proofs.YtliaddbbmnfioaaGreatDoor
open Go.RowKit Go.WideShapes Go.ChangeShapes
variable [AFq]
set_option linter.unusedSectionVars false
set_option linter.unusedVariables false
set_option linter.unusedSimpArgs false
set_option autoImplicit false
def came (w : World) : Ctx := ⟨fun _ _ => none, [], fun b => b < w.heap.size⟩
def ALU (P : Program) (t : TypeId) {α : Type} (f : α → TV) (ok : α → Prop) : Prop :=
 ∀ {H : Type} (enc : TypeId × Value → H) (w : World) (fuel : Nat) (cs : List Value) (d : DataW H) (ps : List MemPlace),
  DataW.trod enc P w 0 (fun _ => true) true fuel t cs = some (d, ps) → (d.weights P t).all (· ≤ reachBytes) = true → ∃ a, AFf (came w) w (f a) cs ∧ ok a

theorem AZ9 {α β : Type} {f : α → Option β} : ∀ {l : List α} {xs : List β}, l.mapM f = some xs → xs.length = l.length ∧ ∀ (i : Nat) a, l[i]? = some a → ∃ x, xs[i]? = some x ∧ f a = some x
 | [], xs, h => by simp at h; subst h; simp
 | a :: l, xs, h => by
  rw [List.mapM_cons] at h
  cases hf : f a with
  | none => rw [hf] at h; cases h
  | some y =>
   rw [hf] at h
   cases hl : l.mapM f with
   | none => rw [hl] at h; cases h
   | some ys =>
    rw [hl] at h
    have e : xs = y :: ys := by simpa using h.symm
    subst e
    obtain ⟨h1, h2⟩ := AZ9 hl
    refine ⟨by simp [h1], fun i b hb => ?_⟩
    cases i with
    | zero => simp at hb; subst hb; exact ⟨y, by simp, hf⟩
    | succ i => simpa using h2 i b (by simpa using hb)
theorem AS7 {β : Type} {f : Nat → Option β} {n : Nat} {xs : List β} (h : (List.range n).mapM f = some xs) : xs.length = n ∧ ∀ i, i < n → ∃ x, xs[i]? = some x ∧ f i = some x := by
 obtain ⟨h1, h2⟩ := AZ9 h
 exact ⟨by simpa using h1, fun i hi => h2 i i (by simp [hi])⟩

section
variable {P : Program} {t e : TypeId}
theorem AU9 {H : Type} {enc : TypeId × Value → H} {w : World} {fuel : Nat} {cs : List Value} {x : DataW H × List MemPlace} (h : DataW.trod enc P w 0 (fun _ => true) true fuel t cs = some x) : ∃ n, fuel = n + 1 := by
 cases fuel with
 | zero => simp [DataW.trod] at h
 | succ n => exact ⟨n, rfl⟩

theorem AYB {k : IntKind} (ht : P.underlying t = some (.int k)) : ALU P t (fun n => .val (.int k n)) (fun n => (Lit.int k n).wf = true) := by
 intro H enc w fuel cs d ps h _
 obtain ⟨n, rfl⟩ := AU9 h
 unfold DataW.trod at h; rw [ht] at h
 split at h <;> rename_i h1 <;> try (simp at h1; done)
 all_goals try (cases h; done)
 all_goals try (simp only [Option.some.injEq, TypeDesc.int.injEq] at h1)
 all_goals first
  | (subst h1; split at h; (rename_i hc; obtain ⟨rfl, hw⟩ := hc; cases h; exact ⟨_, by rw [AFf]; exact ⟨rfl, rfl⟩, hw⟩); cases h)
  | (simp at h1; done)
  | (simp at h; done)
theorem AYZ (ht : P.underlying t = some .string) : ALU P t (fun l => .val (.string (str l))) (fun l => l.length ≤ 140737488351232) := by
 intro H enc w fuel cs d ps h hw
 obtain ⟨n, rfl⟩ := AU9 h
 unfold DataW.trod at h; rw [ht] at h
 split at h <;> rename_i h1 <;> try (simp at h1; done)
 all_goals first
  | (simp at h1; done)
  | (simp at h; done)
  | (simp only [Option.ite_none_right_eq_some, Option.some.injEq, Prod.mk.injEq] at h; obtain ⟨hm, rfl, rfl⟩ := h; refine ⟨bl _, by rw [AFf, BdD]; exact ⟨rfl, rfl⟩, ?_⟩; simp only [DataW.weights, List.all_cons, List.all_nil, Bool.and_true, reachBytes] at hw; exact of_decide_eq_true hw)
end

theorem AOL {H : Type} {P : Program} {e : TypeId} {d : DataW H} {n : Nat} (hn : n ∈ d.weights P e) : ∀ {ds : List (DataW H)}, d ∈ ds → n ∈ DataW.weightsAll P e ds
 | d0 :: ds, h => by
  simp only [DataW.weightsAll, List.mem_append]
  rcases List.mem_cons.1 h with rfl | h
  ·exact Or.inl hn
  ·exact Or.inr (AOL hn h)
theorem AK1 {l m : List Nat} (h : m.all (· ≤ reachBytes) = true) (hs : ∀ n ∈ l, n ∈ m) : l.all (· ≤ reachBytes) = true := List.all_eq_true.2 fun n hn => List.all_eq_true.1 h n (hs n hn)

theorem Bbx (a : Addr) (i j : Nat) : (a.add i).add j = a.add (i + j) := by
 unfold Addr.add
 by_cases h1 : i = 0 <;> by_cases h2 : j = 0 <;> simp [h1, h2, Nat.add_assoc]
theorem A7X (b off i : Nat) : (⟨b, off, none⟩ : Addr).add i = ⟨b, off + i, none⟩ := by
 unfold Addr.add
 by_cases h1 : i = 0 <;> simp [h1]
theorem A22 {w : World} {a : Addr} {n : Nat} {us : List Value} (h : w.cells? 0 a n = some us) : us.length = n ∧ ∀ i, i < n → ∃ u, us[i]? = some u ∧ w.cell? (a.add i) = some u := by
 unfold World.cells? at h
 rw [if_pos (Nat.zero_le _)] at h
 exact AS7 h
theorem A0w {α : Type} {f : α → TV} {ok : α → Prop} {k : Nat} (hw : ∀ a, ok a → AFo (f a) = k) {w : World} {b off : Nat} : ∀ (n i0 : Nat), (∀ i, i < n → ∃ us a, AFf (came w) w (f a) us ∧ ok a ∧ us.length = k ∧ AGi w b (off + (i0 + i) * k) us) →
  ∃ (l : List α) (us : List Value), l.length = n ∧ (∀ a ∈ l, ok a) ∧ AFg (came w) w (l.map f) us ∧ us.length = n * k ∧ AGi w b (off + i0 * k) us
 | 0, i0, _ => ⟨[], [], rfl, by simp, by rw [List.map_nil, AFg], by simp, fun j u h => by simp at h⟩
 | n + 1, i0, h => by
  obtain ⟨us, a, h1, h2, h3, h4⟩ := h 0 (by omega)
  obtain ⟨l, vs, k1, k2, k3, k4, k5⟩ := A0w hw n (i0 + 1) (fun i hi => by
   obtain ⟨us, a, h1, h2, h3, h4⟩ := h (i + 1) (by omega)
   exact ⟨us, a, h1, h2, h3, by rw [show i0 + 1 + i = i0 + (i + 1) from by omega]; exact h4⟩)
  refine ⟨a :: l, us ++ vs, by simp [k1], fun c hc => ?_, ?_, ?_, ?_⟩
  ·rcases List.mem_cons.1 hc with rfl | hc
   ·exact h2
   ·exact k2 c hc
  ·rw [List.map_cons, AFg]; exact ⟨us, vs, rfl, h1, k3⟩
  ·rw [List.length_append, h3, k4, Nat.succ_mul, Nat.add_comm]
  ·intro j u hj
   by_cases hjk : j < k
   ·rw [List.getElem?_append_left (by omega)] at hj
    have := h4 j u hj
    rwa [Nat.add_zero] at this
   ·rw [List.getElem?_append_right (by omega), h3] at hj
    have := k5 (j - k) u hj
    rw [show off + (i0 + 1) * k + (j - k) = off + i0 * k + j from by rw [Nat.succ_mul]; omega] at this
    exact this

section
variable {P : Program} {t e : TypeId} {α : Type} {f : α → TV} {ok : α → Prop} {k B : Nat}
theorem AWH (ht : P.underlying t = some (.slice e)) (hk : P.cellsOf e = k) (hB : P.bytesOf e = B) (hc : ALU P e f ok) (hw : ∀ a, ok a → AFo (f a) = k) (h0 : k ≠ 0) :
  ALU P t (fun l : List α => .sl k (l.map f)) (fun l => (∀ a ∈ l, ok a) ∧ l.length * B ≤ 140737488351232 ∧ l.length ≤ 9223372036854775807) := by
 intro H enc w fuel cs d ps h hwt
 obtain ⟨n, rfl⟩ := AU9 h
 unfold DataW.trod at h; rw [ht] at h
 split at h <;> rename_i h1 <;> try (simp at h1; done)
 all_goals first
  | (simp at h; done)
  | skip
 ·cases h
  refine ⟨[], ?_, by simp, by simp, by simp⟩
  rw [AFf]; exact ⟨by simp, .inl ⟨rfl, none, 0, rfl, by omega⟩⟩
 ·rename_i a len cap
  simp only [Option.some.injEq, TypeDesc.slice.injEq] at h1
  subst h1
  split at h
  ·rename_i hcond
   obtain ⟨-, hlc, hcm⟩ := hcond
   rw [Option.bind_eq_some_iff] at h
   obtain ⟨elems, he, h⟩ := h
   rw [if_pos rfl, Option.map_eq_some_iff] at h
   obtain ⟨rest, hr, h⟩ := h
   simp only [Prod.mk.injEq] at h
   obtain ⟨rfl, rfl⟩ := h
   obtain ⟨e1, e2⟩ := AS7 he
   obtain ⟨r1, _⟩ := AS7 hr
   unfold maxLen at hcm
   simp only [DataW.weights, ht, List.all_cons, Bool.and_eq_true, decide_eq_true_eq, reachBytes, List.length_map, e1, r1, hB] at hwt
   have hcapB : cap * B ≤ 140737488351232 := by have := of_decide_eq_true hwt.1; rwa [Nat.add_sub_cancel' hlc] at this
   have hlen : len * B ≤ 140737488351232 := Nat.le_trans (Nat.mul_le_mul_right _ hlc) hcapB
   have hwe : (DataW.weightsAll P e (elems.map (·.1))).all (· ≤ reachBytes) = true := AK1 (m := DataW.weightsAll P e (elems.map (·.1)) ++ DataW.weightsAll P e (rest.map (·.1))) hwt.2 (fun n hn => List.mem_append_left _ hn)
   obtain ⟨b, off, spot⟩ := a
   have key : ∀ i, i < len → ∃ us a, AFf (came w) w (f a) us ∧ ok a ∧ us.length = k ∧ (∀ j u, us[j]? = some u → w.cell? ((⟨b, off, spot⟩ : Addr).add (i * k + j)) = some u) := by
    intro i hi
    obtain ⟨x, hx, hxe⟩ := e2 i hi
    rw [Option.bind_eq_some_iff] at hxe
    obtain ⟨us, hus, htr⟩ := hxe
    rw [hk] at hus
    obtain ⟨c1, c2⟩ := A22 hus
    obtain ⟨a, ha, hok⟩ := hc enc w n us x.1 x.2 htr (AK1 hwe fun m hm => AOL hm (List.mem_map.2 ⟨x, List.mem_of_getElem? hx, rfl⟩))
    refine ⟨us, a, ha, hok, c1, fun j u hj => ?_⟩
    have hjk : j < k := by rw [← c1]; exact (List.getElem?_eq_some_iff.1 hj).1
    obtain ⟨u', hu', hcu⟩ := c2 j hjk
    rw [hj] at hu'; cases hu'
    rw [Bbx] at hcu
    exact hcu
   by_cases hl0 : len = 0
   ·subst hl0
    refine ⟨[], ?_, by simp, by simp, by simp⟩
    rw [AFf]; exact ⟨by simp, .inl ⟨rfl, _, cap, rfl, hcm⟩⟩
   ·have hsp : spot = none := by
     obtain ⟨us, a, _, _, c1, c2⟩ := key 0 (by omega)
     have hu : us[0]? = some us[0] := List.getElem?_eq_getElem (by omega)
     have := c2 0 _ hu
     simpa [Addr.add] using World.cell?_spot this
    subst hsp
    obtain ⟨l, us, l1, l2, l3, l4, l5⟩ := A0w (f := f) (ok := ok) hw (w := w) (b := b) (off := off) len 0 (fun i hi => by
     obtain ⟨us, a, h1, h2, h3, h4⟩ := key i hi
     refine ⟨us, a, h1, h2, h3, fun j u hj => ?_⟩
     have := h4 j u hj
     rw [A7X] at this
     rw [Nat.zero_add, Nat.add_assoc]; exact this)
    refine ⟨l, ?_, l2, by rw [l1]; exact hlen, by omega⟩
    rw [AFf]
    refine ⟨fun x hx => ?_, .inr ⟨b, off, cap, us, by rw [List.length_map, l1], by rw [List.length_map, l1]; exact hlc, hcm, ?_, l3, by simpa using l5⟩⟩
    ·obtain ⟨a, ha, rfl⟩ := List.mem_map.1 hx; exact hw a (l2 a ha)
    ·have hus : 0 < us.length := by rw [l4]; exact Nat.mul_pos (by omega) (by omega)
     exact Bb3 (l5 0 us[0] (List.getElem?_eq_getElem hus))
  ·cases h
end
section
variable {P : Program} {t e : TypeId} {α : Type} {f : α → TV} {ok : α → Prop} {k : Nat}
theorem AM2 {β : Type} {g : β → TV} {ok' : β → Prop} (h : ALU P t f ok) (hm : ∀ a, ok a → ∃ b, f a = g b ∧ ok' b) : ALU P t g ok' := by
 intro H enc w fuel cs d ps h1 h2
 obtain ⟨a, h3, h4⟩ := h enc w fuel cs d ps h1 h2
 obtain ⟨b, h5, h6⟩ := hm a h4
 exact ⟨b, by rw [← h5]; exact h3, h6⟩
theorem AZT (ht : P.underlying t = some (.int .u8)) : ALU P t by8 (fun _ => True) :=
 AM2 (AYB ht) fun n h => by
  have := bounds_u8 h
  refine ⟨UInt8.ofNat n.toNat, ?_, trivial⟩
  rw [by8, UInt8.toNat_ofNat', Nat.mod_eq_of_lt (by omega)]
  congr 2; omega
theorem A3C (ht : P.underlying t = some (.int .i64)) : ALU P t i64 (fun n => -9223372036854775808 ≤ n ∧ n ≤ 9223372036854775807) :=
 AM2 (AYB ht) fun n h => ⟨n, rfl, by have := bounds_i64 h; omega⟩
theorem A0M (ht : P.underlying t = some (.slice e)) (he : P.underlying e = some (.int .u8)) (hk : P.cellsOf e = 1) (hB : P.bytesOf e = 1) : ALU P t slB (fun l => l.length ≤ 140737488351232) :=
 AM2 (AWH ht hk hB (AZT he) (fun _ _ => rfl) (by omega)) fun l h => ⟨l, rfl, by have := h.2; omega⟩
theorem Bbw {H : Type} {P : Program} {e : TypeId} {parts : List (DataW H)} (h : (DataW.weightsAll P e parts).all (· ≤ reachBytes) = true) {d : DataW H} (hd : d ∈ parts) : (d.weights P e).all (· ≤ reachBytes) = true :=
 AK1 h fun n hn => AOL hn hd
theorem A2d {w : World} (hw : ∀ a, ok a → AFo (f a) = k) : ∀ (n i0 : Nat) (cs : List Value), cs.length = n * k → (∀ i, i < n → ∃ a, AFf (came w) w (f a) ((cs.drop (i * k)).take k) ∧ ok a) →
  ∃ l : List α, l.length = n ∧ (∀ a ∈ l, ok a) ∧ AFg (came w) w (l.map f) cs
 | 0, i0, cs, hl, _ => ⟨[], rfl, by simp, by rw [List.map_nil, AFg]; exact List.length_eq_zero_iff.1 (by simpa using hl)⟩
 | n + 1, i0, cs, hl, h => by
  obtain ⟨a, h1, h2⟩ := h 0 (by omega)
  rw [Nat.zero_mul, List.drop_zero] at h1
  rw [Nat.succ_mul] at hl
  obtain ⟨l, k1, k2, k3⟩ := A2d hw n 0 (cs.drop k) (by rw [List.length_drop]; omega) (fun i hi => by
   obtain ⟨a, h1, h2⟩ := h (i + 1) (by omega)
   exact ⟨a, by rw [List.drop_drop]; rw [Nat.succ_mul, Nat.add_comm] at h1; exact h1, h2⟩)
  refine ⟨a :: l, by simp [k1], fun c hc => ?_, ?_⟩
  ·rcases List.mem_cons.1 hc with rfl | hc
   ·exact h2
   ·exact k2 c hc
  ·rw [List.map_cons, AFg]
   exact ⟨cs.take k, cs.drop k, (List.take_append_drop k cs).symm, h1, k3⟩
theorem AZ8 {n : Nat} (ht : P.underlying t = some (.array n e)) (hk : P.cellsOf e = k) (hn : P.cellsOf t = n * k) (hc : ALU P e f ok) (hw : ∀ a, ok a → AFo (f a) = k) :
  ALU P t (fun l : List α => .arr n k (l.map f)) (fun l => l.length = n ∧ ∀ a ∈ l, ok a) := by
 intro H enc w fuel cs d ps h hwt
 obtain ⟨m, rfl⟩ := AU9 h
 unfold DataW.trod at h; rw [ht] at h
 split at h <;> rename_i h1 <;> try (simp at h1; done)
 all_goals first
  | (simp at h; done)
  | exact ((‹∀ (n_1 : Nat) (e_1 : TypeId), some (TypeDesc.array n e) = some (TypeDesc.array n_1 e_1) → False› : ∀ (n_1 : Nat) (e_1 : TypeId), some (TypeDesc.array n e) = some (TypeDesc.array n_1 e_1) → False) n e rfl).elim
  | skip
 cases h1
 split at h
 ·rename_i hlen
  rw [Option.map_eq_some_iff] at h
  obtain ⟨xs, hx, h⟩ := h
  simp only [Prod.mk.injEq] at h
  obtain ⟨rfl, rfl⟩ := h
  obtain ⟨e1, e2⟩ := AS7 hx
  simp only [DataW.weights, ht] at hwt
  rw [hn] at hlen
  obtain ⟨l, l1, l2, l3⟩ := A2d (f := f) (ok := ok) (w := w) hw _ 0 _ hlen (fun i hi => by
   obtain ⟨x, hx, hxe⟩ := e2 i hi
   rw [hk] at hxe
   obtain ⟨a, ha, hok⟩ := hc enc w m _ x.1 x.2 hxe (Bbw hwt (List.mem_map.2 ⟨x, List.mem_of_getElem? hx, rfl⟩))
   exact ⟨a, ha, hok⟩)
  refine ⟨l, ?_, l1, l2⟩
  rw [AFf]
  refine ⟨by rw [List.length_map, l1], fun x hx => ?_, l3⟩
  obtain ⟨a, ha, rfl⟩ := List.mem_map.1 hx; exact hw a (l2 a ha)
 ·cases h
end

def AZs (P : Program) (off : Nat) (fs : List Field) {α : Type} (f : α → List TV) (ok : α → Prop) : Prop :=
 ∀ {H : Type} (enc : TypeId × Value → H) (w : World) (fuel : Nat) (cs : List Value) (xs : List (DataW H × List MemPlace)),
  (fs.mapM fun fd => DataW.trod enc P w 0 (fun _ => true) true fuel fd.type ((cs.drop fd.offset).take (P.cellsOf fd.type))) = some xs → (DataW.weightsEach P (fs.map (·.type)) (xs.map (·.1))).all (· ≤ reachBytes) = true →
  cs.length = off + (fs.map fun fd => P.cellsOf fd.type).sum → ∃ a, AFg (came w) w (f a) (cs.drop off) ∧ ok a
theorem A1A {P : Program} {off : Nat} : AZs P off [] (fun _ : Unit => []) (fun _ => True) := by
 intro H enc w fuel cs xs _ _ hl
 refine ⟨(), ?_, trivial⟩
 rw [AFg]; exact List.drop_eq_nil_of_le (by simp at hl; omega)
theorem ASA {P : Program} {off n : Nat} {fd : Field} {fs : List Field} {α β : Type} {f : α → TV} {ok : α → Prop} {g : β → List TV} {ok' : β → Prop} (h0 : fd.offset = off) (hn : P.cellsOf fd.type = n) (hc : ALU P fd.type f ok) (hr : AZs P (off + n) fs g ok') :
  AZs P off (fd :: fs) (fun x : α × β => f x.1 :: g x.2) (fun x => ok x.1 ∧ ok' x.2) := by
 intro H enc w fuel cs xs hx hw hl
 rw [List.mapM_cons] at hx
 cases h1 : DataW.trod enc P w 0 (fun _ => true) true fuel fd.type ((cs.drop fd.offset).take (P.cellsOf fd.type)) with
 | none => rw [h1] at hx; cases hx
 | some y =>
  rw [h1] at hx
  cases h2 : (fs.mapM fun fd => DataW.trod enc P w 0 (fun _ => true) true fuel fd.type ((cs.drop fd.offset).take (P.cellsOf fd.type))) with
  | none => rw [h2] at hx; cases hx
  | some ys =>
   rw [h2] at hx
   have e : xs = y :: ys := by simpa using hx.symm
   subst e
   simp only [List.map_cons, DataW.weightsEach] at hw
   obtain ⟨a, ha, hoka⟩ := hc enc w fuel _ y.1 y.2 h1 (AK1 hw fun n hn => List.mem_append_left _ hn)
   obtain ⟨b, hb, hokb⟩ := hr enc w fuel cs ys h2 (AK1 hw fun n hn => List.mem_append_right _ hn) (by simp [hn] at hl ⊢; omega)
   refine ⟨(a, b), ?_, hoka, hokb⟩
   rw [AFg]
   refine ⟨(cs.drop off).take n, cs.drop (off + n), ?_, by rw [← h0, ← hn]; exact ha, hb⟩
   rw [← List.drop_drop, List.take_append_drop]
theorem AY2 {P : Program} {t : TypeId} {fs : Array Field} {α : Type} {f : α → List TV} {ok : α → Prop} (ht : P.underlying t = some (.struct fs)) (hn : P.cellsOf t = (fs.toList.map fun fd => P.cellsOf fd.type).sum) (hc : AZs P 0 fs.toList f ok) :
  ALU P t (fun a => .agg (f a)) ok := by
 intro H enc w fuel cs d ps h hwt
 obtain ⟨m, rfl⟩ := AU9 h
 unfold DataW.trod at h; rw [ht] at h
 split at h <;> rename_i h1 <;> try (simp at h1; done)
 all_goals first
  | (simp at h; done)
  | exact ((‹∀ (fs_1 : Array Field), some (TypeDesc.struct fs) = some (TypeDesc.struct fs_1) → False› : ∀ (fs_1 : Array Field), some (TypeDesc.struct fs) = some (TypeDesc.struct fs_1) → False) fs rfl).elim
  | skip
 cases h1
 split at h
 ·rename_i hlen
  rw [Option.map_eq_some_iff] at h
  obtain ⟨xs, hx, h⟩ := h
  simp only [Prod.mk.injEq] at h
  obtain ⟨rfl, rfl⟩ := h
  simp only [DataW.weights, ht] at hwt
  obtain ⟨a, ha, hok⟩ := hc enc w m _ xs hx hwt (by rw [hlen, hn, Nat.zero_add])
  exact ⟨a, by rw [AFf]; rw [List.drop_zero] at ha; exact ha, hok⟩
 ·cases h

def AVl (P : Program) (ts : List TypeId) {α : Type} (f : α → List TV) (ok : α → Prop) : Prop :=
 ∀ {H : Type} (enc : TypeId × Value → H) (w : World) (vs : List Value) (ds : List (DataW H)) (ps : List MemPlace),
  DataW.TrodAll enc P w 0 (fun _ => true) true ts vs ds ps → (∀ (j : Nat) t v, ts[j]? = some t → vs[j]? = some v → ∃ base, Value.okWide P w .any base t v) → (DataW.weightsEach P ts ds).all (· ≤ reachBytes) = true → ∃ a, AFO (came w) w (f a) vs ∧ ok a
theorem AZj {P : Program} : AVl P [] (fun _ : Unit => []) (fun _ => True) := by
 intro H enc w vs ds ps h _ _
 obtain ⟨rfl, rfl, rfl⟩ := trodAll_nil h
 exact ⟨(), by rw [AFO], trivial⟩
def A3N (P : Program) (t : TypeId) (b : Bool) : Prop := ∀ w base v, Value.okWide P w .any base t v → if b then ∃ cs, v = .agg cs else v.cells = #[v]
theorem AWF {P : Program} {t e : TypeId} (ht : P.underlying t = some (.slice e)) : A3N P t false := fun w _ v h => by obtain ⟨_, _, _, rfl⟩ := okWide_slice ht h; rfl
theorem A3S {c : Ctx} {P : Program} {w : World} {t : TypeId} {v : Value} {x : TV} {b : Bool} (hf : A3N P t b) {base : Nat} (hv : Value.okWide P w .any base t v) (hx : AWE x = b) : v = mkV x v.cells.toList := by
 have h := hf w base v hv
 cases b with
 | true =>
  simp only [if_true] at h
  obtain ⟨cs, rfl⟩ := h
  rw [A2m hx]; simp [Value.cells]
 | false =>
  simp only [Bool.false_eq_true, if_false] at h
  rw [h]
  exact (AXe hx).symm
theorem ATv {P : Program} {t : TypeId} {ts : List TypeId} {α β : Type} {f : α → TV} {ok : α → Prop} {g : β → List TV} {ok' : β → Prop} {b : Bool} (hc : ALU P t f ok) (hf : A3N P t b) (hm : ∀ a, AWE (f a) = b) (hr : AVl P ts g ok') :
  AVl P (t :: ts) (fun x : α × β => f x.1 :: g x.2) (fun x => ok x.1 ∧ ok' x.2) := by
 intro H enc w vs ds ps h hv hw
 obtain ⟨v, vs', d, ds', p, q, rfl, rfl, rfl, h0, r0⟩ := trodAll_cons h
 simp only [DataW.weightsEach] at hw
 obtain ⟨fuel, hfu⟩ := h0
 obtain ⟨a, ha, hoka⟩ := hc enc w fuel _ d p hfu (AK1 hw fun n hn => List.mem_append_left _ hn)
 obtain ⟨b, hb, hokb⟩ := hr enc w vs' ds' q r0 (fun j t v h1 h2 => hv (j + 1) t v (by simpa using h1) (by simpa using h2)) (AK1 hw fun n hn => List.mem_append_right _ hn)
 refine ⟨(a, b), AFO.cons.2 ⟨v, vs', rfl, .inr (.inr ⟨v.cells.toList, ha, A3S (c := came w) hf (hv 0 t v rfl rfl).choose_spec (hm a)⟩), hb⟩, hoka, hokb⟩
theorem AVE {H : Type} {enc : TypeId × Value → H} {P : Program} (hl : laidOutB P = true) {W W' : World} (hb : Below W.heap.size W W') : ∀ {ts : List TypeId} {vs : List Value} {ds : List (DataW H)} {ps : List MemPlace}, (ts.all fun t => P.readableRec t && decide (t < P.types.size)) = true →
  DataW.TrodAll enc P W 0 (fun _ => true) true ts vs ds ps → DataW.TrodAll enc P W' 0 (fun b => decide (b < W.heap.size)) true ts vs ds ps
 | [], vs, ds, ps, _, h => by
  obtain ⟨rfl, rfl, rfl⟩ := trodAll_nil h
  exact trodAll_mk0
 | t :: ts, vs, ds, ps, hr, h => by
  obtain ⟨v, vs', d, ds', p, q, rfl, rfl, rfl, h0, r0⟩ := trodAll_cons h
  simp only [List.all_cons, Bool.and_eq_true, decide_eq_true_eq] at hr
  refine trodAll_cons_mk (Below.trod hl hr.1.1 hr.1.2 h0 hb ?_) (AVE hl hb (by simpa using hr.2) r0)
  obtain ⟨m, hm⟩ := h0
  exact DataW.trod_lt m _ _ _ hm

theorem AQH.below {F F' : Nat → Prop} {w w' : World} (h : AQH F w F' w') : Below w.heap.size w w' := ⟨h.os, h.tape, h.output, h.size, fun k hk => h.same k hk⟩
theorem Bd6 {P : Program} {f : FuncId} {ts : List TypeId} {α : Type} {g : α → List TV} {ok : α → Prop} (hc : AVl P ts g ok) (hlaw : ∀ a, ok a → AF9 P f (g a) (fun x => x = tb true)) {H : Type} {enc : TypeId × Value → H} {w : World} {args : Array Value} {ds : List (DataW H)} {ps : List MemPlace}
  (h : DataW.TrodAll enc P w 0 (fun _ => true) true ts args.toList ds ps) (hv : ∀ (j : Nat) t v, ts[j]? = some t → args.toList[j]? = some v → ∃ base, Value.okWide P w .any base t v) (hw : (DataW.weightsEach P ts ds).all (· ≤ reachBytes) = true) (hg : AMl (fun b => b < w.heap.size) w) :
  Calls P f args w fun e w' => e = .returned (.bool true) ∧ Below w.heap.size w w' := by
 obtain ⟨a, ha, hok⟩ := hc enc w args.toList ds ps h hv hw
 have := hlaw a hok (fun _ _ => none) (fun b => b < w.heap.size) w args.toList ⟨fun b h => h, hg⟩ ha
 rw [Array.toArray_toList] at this
 refine this.mono ?_
 rintro e w' ⟨v, x, F', rfl, rfl, hx, hst⟩
 rw [Rep.val] at hx
 exact ⟨by rw [hx], hst.below⟩
end Go.Proofs.YtliaddbbmnfioaaGreatDoor


namespace Go.Proofs.YtliaddbbmnfioaaGreatDoor
open Go.RowKit
variable [AFq]
set_option linter.unusedSectionVars false
set_option linter.unusedVariables false

theorem A2U {g : Nat} {x : GV} (h : AJf g = some x) : (g, x) ∈ AFq.l := by
 unfold AJf at h
 obtain ⟨p, hp, rfl⟩ := Option.map_eq_some_iff.1 h
 have h1 := List.mem_of_find?_eq_some hp
 have h2 := List.find?_some hp
 have h3 : p.1 = g := by simpa using h2
 obtain ⟨a, b⟩ := p
 simp only at h3; subst h3; exact h1
section
omit [AFq]
theorem AZa {P : Program} {w : World} {name : String} {g : Nat} {cs : Array Value} (hg : P.globalNamed name = some g) (h : w.var? P name = some cs) : ∃ t fr, w.heap[g]? = some (.cells cs t fr) := by
 unfold World.var? at h
 rw [hg, Option.bind_some] at h
 split at h
 ·rename_i c t fr hh; cases h; exact ⟨t, fr, hh⟩
 ·cases h
def A6G (P : Program) (t : TypeId) : Bool := match P.underlying t with
 | some (.int _) => true
 | some .string => true
 | _ => false
def Bfi : DataW Unit → Option Value
 | .lit (.int k n) => some (.int k n)
 | .lit (.string l) => some (.string ⟨l.toArray⟩)
 | _ => none
variable {P : Program} {w : World} {fuel : Nat} {cs : List Value}
theorem A1K {t : TypeId} {x : DataW Unit × List MemPlace} (ht : A6G P t = true) (h : DataW.trod (fun _ => ()) P w 0 (fun _ => true) false fuel t cs = some x) : ∃ v, Bfi x.1 = some v ∧ cs = [v] := by
 unfold A6G at ht
 split at ht
 ·rename_i k hk
  obtain ⟨n, rfl, rfl, _⟩ := DataW.trod_int hk h
  exact ⟨_, rfl, rfl⟩
 ·rename_i hk
  obtain ⟨s, rfl, rfl, _⟩ := DataW.trod_string hk h
  exact ⟨_, rfl, by simp⟩
 ·cases ht
theorem A1o {t e : TypeId} {n : Nat} {ds : List (DataW Unit)} {p : List MemPlace} {vs : List Value} (ht : P.underlying t = some (.array n e)) (he : A6G P e = true) (hce : P.cellsOf e = 1) (hct : P.cellsOf t = n) (hv : ds.map Bfi = vs.map some)
  (h : DataW.trod (fun _ => ()) P w 0 (fun _ => true) false fuel t cs = some (.agg ds, p)) : cs = vs := by
 cases fuel with
 | zero => simp [DataW.trod] at h
 | succ fuel =>
  simp only [DataW.trod, ht, hce, hct, Nat.mul_one] at h
  split at h
  ·rename_i hl
   obtain ⟨xs, hm, hx⟩ := Option.map_eq_some_iff.1 h
   have hxs : xs.map (·.1) = ds := by
    have := congrArg Prod.fst hx
    simpa using this
   have hxl : xs.length = n := by simpa using Lib.mapM_length hm
   have hvl : vs.length = n := by
    have h1 := congrArg List.length hxs
    have h2 := congrArg List.length hv
    simp at h1 h2
    omega
   apply List.ext_getElem?
   intro i
   by_cases hi : i < n
   ·obtain ⟨b, hb, hf⟩ := Lib.mapM_at hm i i (by simp [hi])
    obtain ⟨v, hv1, hv2⟩ := A1K he hf
    have h1 : cs[i]? = some v := by
     have := congrArg (·[0]?) hv2
     simpa [List.getElem?_take, List.getElem?_drop] using this
    have h2 : ds[i]? = some b.1 := by rw [← hxs]; simp [hb]
    have h3 : (ds.map Bfi)[i]? = some (some v) := by simp [h2, hv1]
    rw [hv] at h3
    simp only [List.getElem?_map, Option.map_eq_some_iff, Option.some.injEq] at h3
    obtain ⟨u, hu, rfl⟩ := h3
    rw [h1, hu]
   ·rw [List.getElem?_eq_none (by omega), List.getElem?_eq_none (by omega)]
  ·cases h
theorem A2w {name : String} {d : DataW Unit} : ∀ {laid : List (String × DataW Unit)} {ps : List MemPlace}, DataW.LaidVars P w laid ps → (name, d) ∈ laid →
  ∃ g t cs fuel p, P.globalNamed name = some g ∧ (P.globals[g]?).map (·.type) = some t ∧ w.var? P name = some cs ∧ DataW.trod (fun _ => ()) P w 0 (fun _ => true) false fuel t cs.toList = some (d, p)
 | [], ps, _, hm => by simp at hm
 | (n, d') :: r, ps, h, hm => by
  obtain ⟨g, t, cs, fuel, p, q, h1, h2, h3, h4, h5, _⟩ := h
  rcases List.mem_cons.1 hm with e | hm
  ·cases e; exact ⟨g, t, cs, fuel, p, h1, h2, h3, h4⟩
  ·exact A2w h5 hm
theorem AZI {laid : List (String × DataW Unit)} (h : laidMet P laid w) {name : String} {ds : List (DataW Unit)} (hm : (name, DataW.agg ds) ∈ laid) {g : Nat} {t e : TypeId} {n : Nat} {vs : List Value} (hg : P.globalNamed name = some g) (hty : (P.globals[g]?).map (·.type) = some t)
  (ht : P.underlying t = some (.array n e)) (he : A6G P e = true) (hce : P.cellsOf e = 1) (hct : P.cellsOf t = n) (hv : ds.map Bfi = vs.map some) : ∃ tt fr, w.heap[g]? = some (.cells vs.toArray tt fr) := by
 obtain ⟨ps, h, _⟩ := h
 obtain ⟨g', t', cs, fuel, p, h1, h2, h3, h4⟩ := A2w h hm
 obtain rfl := Option.some.inj (hg.symm.trans h1)
 obtain rfl := Option.some.inj (hty.symm.trans h2)
 have := A1o ht he hce hct hv h4
 have e : cs = vs.toArray := by rw [← this, Array.toArray_toList]
 rw [e] at h3
 exact AZa hg h3
end
end Go.Proofs.YtliaddbbmnfioaaGreatDoor


namespace Go.Proofs
open Go.Shelf
def Tryz.lays119_ren : Go.Shelf.Ren := ⟨fun | 119 => 175 | n => n, fun | 21 => 21 | 4 => 4 | n => n, fun | n => n⟩
theorem Tryz.lays119 : Go.Proofs.Lays.n119 Tryz.prog Tryz.lays119_ren := {
 mixed := by kernel_rfl
 f119 := Tryz.func175.trans (congrArg some (by kernel_rfl))
 t4 := Tryz.underlying4
 a4 := Tryz.isAgg4
 z4 := Tryz.sizeOf4
 v4 := Tryz.zeroValue4
 t21 := Tryz.underlying21
 a21 := Tryz.isAgg21
 z21 := Tryz.sizeOf21
 v21 := Tryz.zeroValue21 }
theorem Tryz.utf8_ValidRune (r : Int) (w : World) :
  Calls Tryz.prog 175 #[.int .i32 r] w fun e w' => e = .returned (.bool (Lib.validRune r)) ∧ w' = w := Any.utf8_ValidRune Tryz.lays119 r w
def Tryz.lays106_ren : Go.Shelf.Ren := ⟨fun | 106 => 85 | 213 => 120 | 265 => 145 | n => n, fun | 9 => 9 | 3 => 3 | n => n, fun | n => n⟩
theorem Tryz.lays106 : Go.Proofs.Lays.n106 Tryz.prog Tryz.lays106_ren := {
 mixed := by kernel_rfl
 f106 := Tryz.func85.trans (congrArg some (by kernel_rfl))
 f213 := Tryz.func120.trans (congrArg some (by kernel_rfl))
 f265 := Tryz.func145.trans (congrArg some (by kernel_rfl))
 t3 := Tryz.underlying3
 a3 := Tryz.isAgg3
 z3 := Tryz.sizeOf3
 v3 := Tryz.zeroValue3
 t9 := Tryz.underlying9
 a9 := Tryz.isAgg9
 z9 := Tryz.sizeOf9
 v9 := Tryz.zeroValue9 }
open Go.RowKit in
theorem Tryz.strings_Compare (a b : ByteArray) (w : World) :
  Calls Tryz.prog 85 #[.string a, .string b] w fun e w' => e = .returned (.int .i64 (Lib.compareBytes a.data.toList b.data.toList)) ∧ w' = w := Any.strings_Compare Tryz.lays106 a b w
def Tryz.lays137_ren : Go.Shelf.Ren := ⟨fun | 137 => 136 | 217 => 165 | 266 => 178 | n => n, fun | 9 => 9 | 5 => 5 | 3 => 3 | n => n, fun | n => n⟩
theorem Tryz.lays137 : Go.Proofs.Lays.n137 Tryz.prog Tryz.lays137_ren := {
 mixed := by kernel_rfl
 f137 := Tryz.func136.trans (congrArg some (by kernel_rfl))
 f217 := Tryz.func165.trans (congrArg some (by kernel_rfl))
 f266 := Tryz.func178.trans (congrArg some (by kernel_rfl))
 t3 := Tryz.underlying3
 a3 := Tryz.isAgg3
 z3 := Tryz.sizeOf3
 v3 := Tryz.zeroValue3
 t5 := Tryz.underlying5
 a5 := Tryz.isAgg5
 z5 := Tryz.sizeOf5
 v5 := Tryz.zeroValue5
 t9 := Tryz.underlying9
 a9 := Tryz.isAgg9
 z9 := Tryz.sizeOf9
 v9 := Tryz.zeroValue9 }
open Go.RowKit in
theorem Tryz.strings_IndexByte (s : ByteArray) (c : Int) (w : World) :
  Calls Tryz.prog 136 #[.string s, .int .u8 c] w fun e w' => e = .returned (.int .i64 (Lib.indexByte s.data.toList c.toNat.toUInt8)) ∧ w' = w := Any.strings_IndexByte Tryz.lays137 s c w
def Tryz.laysC245_ren : Go.Shelf.Ren := ⟨fun | 245 => 124 | 279 => 153 | 280 => 154 | 281 => 155 | 282 => 156 | 316 => 173 | 171 => 57 | 205 => 174 | 243 => 91 | 246 => 92 | 283 => 126 | 284 => 127 | 285 => 128 | 286 => 129 | 129 => 119 | 317 => 159 | 318 => 160 | 319 => 161 | 320 => 162 | 337 => 176 | 338 => 177 | n => n, fun | 9 => 9 | 3 => 3 | 75 => 31 | 167 => 228 | 4 => 4 | 168 => 229 | 210 => 244 | 37 => 29 | 0 => 0 | 127 => 173 | 145 => 254 | 143 => 252 | 2 => 2 | 171 => 208 | 53 => 163 | 5 => 5 | 173 => 210 | 212 => 235 | 51 => 203 | 20 => 20 | 213 => 236 | 46 => 123 | 232 => 255 | 233 => 256 | 80 => 121 | n => n, fun | 15 => 4 | 16 => 5 | 17 => 3 | 18 => 8 | 19 => 9 | n => n⟩
theorem Tryz.laysC245 : Go.Proofs.LaysC.n245 Tryz.prog Tryz.laysC245_ren := {
 mixed := by kernel_rfl
 f129 := Tryz.func119.trans (congrArg some (by kernel_rfl))
 f171 := Tryz.func57.trans (congrArg some (by kernel_rfl))
 f205 := Tryz.func174.trans (congrArg some (by kernel_rfl))
 f243 := Tryz.func91.trans (congrArg some (by kernel_rfl))
 f245 := Tryz.func124.trans (congrArg some (by kernel_rfl))
 f246 := Tryz.func92.trans (congrArg some (by kernel_rfl))
 f279 := Tryz.func153.trans (congrArg some (by kernel_rfl))
 f280 := Tryz.func154.trans (congrArg some (by kernel_rfl))
 f281 := Tryz.func155.trans (congrArg some (by kernel_rfl))
 f282 := Tryz.func156.trans (congrArg some (by kernel_rfl))
 f283 := Tryz.func126.trans (congrArg some (by kernel_rfl))
 f284 := Tryz.func127.trans (congrArg some (by kernel_rfl))
 f285 := Tryz.func128.trans (congrArg some (by kernel_rfl))
 f286 := Tryz.func129.trans (congrArg some (by kernel_rfl))
 f316 := Tryz.func173.trans (congrArg some (by kernel_rfl))
 f317 := Tryz.func159.trans (congrArg some (by kernel_rfl))
 f318 := Tryz.func160.trans (congrArg some (by kernel_rfl))
 f319 := Tryz.func161.trans (congrArg some (by kernel_rfl))
 f320 := Tryz.func162.trans (congrArg some (by kernel_rfl))
 f337 := Tryz.func176.trans (congrArg some (by kernel_rfl))
 f338 := Tryz.func177.trans (congrArg some (by kernel_rfl))
 t0 := Tryz.underlying0
 a0 := Tryz.isAgg0
 z0 := Tryz.sizeOf0
 v0 := Tryz.zeroValue0
 t2 := Tryz.underlying2
 a2 := Tryz.isAgg2
 z2 := Tryz.sizeOf2
 v2 := Tryz.zeroValue2
 t3 := Tryz.underlying3
 a3 := Tryz.isAgg3
 z3 := Tryz.sizeOf3
 v3 := Tryz.zeroValue3
 t4 := Tryz.underlying4
 a4 := Tryz.isAgg4
 z4 := Tryz.sizeOf4
 v4 := Tryz.zeroValue4
 t5 := Tryz.underlying5
 a5 := Tryz.isAgg5
 z5 := Tryz.sizeOf5
 v5 := Tryz.zeroValue5
 t9 := Tryz.underlying9
 a9 := Tryz.isAgg9
 z9 := Tryz.sizeOf9
 v9 := Tryz.zeroValue9
 t20 := Tryz.underlying20
 a20 := Tryz.isAgg20
 z20 := Tryz.sizeOf20
 v20 := Tryz.zeroValue20
 t37 := Tryz.underlying29
 a37 := Tryz.isAgg29
 z37 := Tryz.sizeOf29
 v37 := Tryz.zeroValue29
 t46 := Tryz.underlying123
 a46 := Tryz.isAgg123
 z46 := Tryz.sizeOf123
 v46 := Tryz.zeroValue123
 t51 := Tryz.underlying203
 a51 := Tryz.isAgg203
 z51 := Tryz.sizeOf203
 v51 := Tryz.zeroValue203
 t53 := Tryz.underlying163
 a53 := Tryz.isAgg163
 z53 := Tryz.sizeOf163
 v53 := Tryz.zeroValue163
 t75 := Tryz.underlying31
 a75 := Tryz.isAgg31
 z75 := Tryz.sizeOf31
 v75 := Tryz.zeroValue31
 t127 := Tryz.underlying173
 a127 := Tryz.isAgg173
 z127 := Tryz.sizeOf173
 v127 := Tryz.zeroValue173
 t143 := Tryz.underlying252
 a143 := Tryz.isAgg252
 z143 := Tryz.sizeOf252
 v143 := Tryz.zeroValue252
 t145 := Tryz.underlying254
 a145 := Tryz.isAgg254
 z145 := Tryz.sizeOf254
 v145 := Tryz.zeroValue254
 t167 := Tryz.underlying228
 a167 := Tryz.isAgg228
 z167 := Tryz.sizeOf228
 v167 := Tryz.zeroValue228
 t168 := Tryz.underlying229
 a168 := Tryz.isAgg229
 z168 := Tryz.sizeOf229
 v168 := Tryz.zeroValue229
 t171 := Tryz.underlying208
 a171 := Tryz.isAgg208
 z171 := Tryz.sizeOf208
 v171 := Tryz.zeroValue208
 t173 := Tryz.underlying210
 a173 := Tryz.isAgg210
 z173 := Tryz.sizeOf210
 v173 := Tryz.zeroValue210
 t210 := Tryz.underlying244
 a210 := Tryz.isAgg244
 z210 := Tryz.sizeOf244
 v210 := Tryz.zeroValue244
 t212 := Tryz.underlying235
 a212 := Tryz.isAgg235
 z212 := Tryz.sizeOf235
 v212 := Tryz.zeroValue235
 t213 := Tryz.underlying236
 a213 := Tryz.isAgg236
 z213 := Tryz.sizeOf236
 t232 := Tryz.underlying255
 a232 := Tryz.isAgg255
 z232 := Tryz.sizeOf255
 v232 := Tryz.zeroValue255
 t233 := Tryz.underlying256
 a233 := Tryz.isAgg256
 z233 := Tryz.sizeOf256
 v233 := Tryz.zeroValue256
 g15 := by kernel_rfl
 g16 := by kernel_rfl
 g17 := by kernel_rfl
 g18 := by kernel_rfl
 g19 := by kernel_rfl
 t80 := Tryz.underlying121
 a80 := Tryz.isAgg121
 z80 := Tryz.sizeOf121
 v80 := Tryz.zeroValue121
 i0 := by kernel_rfl
 i2 := by kernel_rfl
 i3 := by kernel_rfl
 i4 := by kernel_rfl
 i5 := by kernel_rfl
 i9 := by kernel_rfl
 i20 := by kernel_rfl
 i37 := by kernel_rfl
 i46 := by kernel_rfl
 i51 := by kernel_rfl
 i53 := by kernel_rfl
 i75 := by kernel_rfl
 i80 := by kernel_rfl
 i127 := by kernel_rfl
 i143 := by kernel_rfl
 i145 := by kernel_rfl
 i167 := by kernel_rfl
 i168 := by kernel_rfl
 i171 := by kernel_rfl
 i173 := by kernel_rfl
 i210 := by kernel_rfl
 i212 := by kernel_rfl
 i232 := by kernel_rfl
 i233 := by kernel_rfl
 m15 := by kernel_rfl
 m16 := by kernel_rfl
 m17 := by kernel_rfl
 m18 := by kernel_rfl
 m19 := by kernel_rfl
 c0 := by kernel_rfl
 c2 := by kernel_rfl
 c3 := by kernel_rfl
 c4 := by kernel_rfl
 c5 := by kernel_rfl
 c9 := by kernel_rfl
 c20 := by kernel_rfl
 c37 := by kernel_rfl
 c46 := by kernel_rfl
 c51 := by kernel_rfl
 c53 := by kernel_rfl
 c75 := by kernel_rfl
 c80 := by kernel_rfl
 c127 := by kernel_rfl
 c143 := by kernel_rfl
 c145 := by kernel_rfl
 c167 := by kernel_rfl
 c168 := by kernel_rfl
 c171 := by kernel_rfl
 c173 := by kernel_rfl
 c210 := by kernel_rfl
 c212 := by kernel_rfl
 c213 := by kernel_rfl
 c232 := by kernel_rfl
 c233 := by kernel_rfl }
open Go.RowKit in
theorem Tryz.strconv_toError_syntax (fn s : ByteArray) (base bits : Int) (ev : Value) (w : World) (hlim : s.size ≤ 281474976710656) (hv : w.cell? ⟨4, 0, none⟩ = some ev) (hev : ev = .nilIface ∨ ∃ te pe, ev = .iface te pe) :
  Calls Tryz.prog 124 #[.string fn, .string s, .int .i64 base, .int .i64 bits, .iface 228 (.int .i64 2)] w fun e w' => ∃ N, e = .returned (.iface 229 (.pointer (some ⟨N, 0, none⟩))) ∧ w.heap.size ≤ N ∧ w'.heap[N]? = some (.cells #[.string fn, .string s, ev] 244 (0, 0)) ∧ Below w.heap.size w w' := Any.strconv_toError_syntax Tryz.laysC245 fn s base bits ev w hlim hv hev
open Go.RowKit in
theorem Tryz.strconv_toError_range (fn s : ByteArray) (base bits : Int) (ev : Value) (w : World) (hlim : s.size ≤ 281474976710656) (hv : w.cell? ⟨5, 0, none⟩ = some ev) (hev : ev = .nilIface ∨ ∃ te pe, ev = .iface te pe) :
  Calls Tryz.prog 124 #[.string fn, .string s, .int .i64 base, .int .i64 bits, .iface 228 (.int .i64 1)] w fun e w' => ∃ N, e = .returned (.iface 229 (.pointer (some ⟨N, 0, none⟩))) ∧ w.heap.size ≤ N ∧ w'.heap[N]? = some (.cells #[.string fn, .string s, ev] 244 (0, 0)) ∧ Below w.heap.size w w' := Any.strconv_toError_range Tryz.laysC245 fn s base bits ev w hlim hv hev
def Tryz.lays152_ren : Go.Shelf.Ren := ⟨fun | 152 => 157 | 137 => 136 | 119 => 175 | 224 => 149 | 225 => 166 | 217 => 165 | 266 => 178 | n => n, fun | 9 => 9 | 21 => 21 | 3 => 3 | 4 => 4 | 5 => 5 | 0 => 0 | 46 => 123 | n => n, fun | n => n⟩
theorem Tryz.lays152 : Go.Proofs.Lays.n152 Tryz.prog Tryz.lays152_ren := {
 mixed := by kernel_rfl
 f119 := Tryz.func175.trans (congrArg some (by kernel_rfl))
 f137 := Tryz.func136.trans (congrArg some (by kernel_rfl))
 f152 := Tryz.func157.trans (congrArg some (by kernel_rfl))
 f217 := Tryz.func165.trans (congrArg some (by kernel_rfl))
 f224 := Tryz.func149.trans (congrArg some (by kernel_rfl))
 f225 := Tryz.func166.trans (congrArg some (by kernel_rfl))
 f266 := Tryz.func178.trans (congrArg some (by kernel_rfl))
 t0 := Tryz.underlying0
 a0 := Tryz.isAgg0
 z0 := Tryz.sizeOf0
 v0 := Tryz.zeroValue0
 t3 := Tryz.underlying3
 a3 := Tryz.isAgg3
 z3 := Tryz.sizeOf3
 v3 := Tryz.zeroValue3
 t4 := Tryz.underlying4
 a4 := Tryz.isAgg4
 z4 := Tryz.sizeOf4
 v4 := Tryz.zeroValue4
 t5 := Tryz.underlying5
 a5 := Tryz.isAgg5
 z5 := Tryz.sizeOf5
 v5 := Tryz.zeroValue5
 t9 := Tryz.underlying9
 a9 := Tryz.isAgg9
 z9 := Tryz.sizeOf9
 v9 := Tryz.zeroValue9
 t21 := Tryz.underlying21
 a21 := Tryz.isAgg21
 z21 := Tryz.sizeOf21
 v21 := Tryz.zeroValue21
 t46 := Tryz.underlying123
 a46 := Tryz.isAgg123
 z46 := Tryz.sizeOf123
 v46 := Tryz.zeroValue123 }
open Go.RowKit Go.Lib in
theorem Tryz.strings_IndexRune_ascii (s : ByteArray) (r : Int) (w : World) (h0 : 0 ≤ r) (h1 : r < 128) :
  Calls Tryz.prog 157 #[.string s, .int .i32 r] w fun e w' => e = .returned (.int .i64 (Lib.indexByte s.data.toList r.toNat.toUInt8)) ∧ w' = w := Any.strings_IndexRune_ascii Tryz.lays152 s r w h0 h1
def Tryz.lays153_ren : Go.Shelf.Ren := ⟨fun | 153 => 125 | 152 => 157 | 226 => 158 | 227 => 95 | 228 => 130 | 137 => 136 | 119 => 175 | 224 => 149 | 225 => 166 | 217 => 165 | 266 => 178 | n => n, fun | 9 => 9 | 3 => 3 | 4 => 4 | 5 => 5 | 21 => 21 | 117 => 169 | 116 => 168 | 0 => 0 | 46 => 123 | 124 => 172 | n => n, fun | n => n⟩
theorem Tryz.lays153 : Go.Proofs.Lays.n153 Tryz.prog Tryz.lays153_ren := {
 mixed := by kernel_rfl
 f119 := Tryz.func175.trans (congrArg some (by kernel_rfl))
 f137 := Tryz.func136.trans (congrArg some (by kernel_rfl))
 f152 := Tryz.func157.trans (congrArg some (by kernel_rfl))
 f153 := Tryz.func125.trans (congrArg some (by kernel_rfl))
 f217 := Tryz.func165.trans (congrArg some (by kernel_rfl))
 f224 := Tryz.func149.trans (congrArg some (by kernel_rfl))
 f225 := Tryz.func166.trans (congrArg some (by kernel_rfl))
 f226 := Tryz.func158.trans (congrArg some (by kernel_rfl))
 f227 := Tryz.func95.trans (congrArg some (by kernel_rfl))
 f228 := Tryz.func130.trans (congrArg some (by kernel_rfl))
 f266 := Tryz.func178.trans (congrArg some (by kernel_rfl))
 t0 := Tryz.underlying0
 a0 := Tryz.isAgg0
 z0 := Tryz.sizeOf0
 v0 := Tryz.zeroValue0
 t3 := Tryz.underlying3
 a3 := Tryz.isAgg3
 z3 := Tryz.sizeOf3
 v3 := Tryz.zeroValue3
 t4 := Tryz.underlying4
 a4 := Tryz.isAgg4
 z4 := Tryz.sizeOf4
 v4 := Tryz.zeroValue4
 t5 := Tryz.underlying5
 a5 := Tryz.isAgg5
 z5 := Tryz.sizeOf5
 v5 := Tryz.zeroValue5
 t9 := Tryz.underlying9
 a9 := Tryz.isAgg9
 z9 := Tryz.sizeOf9
 v9 := Tryz.zeroValue9
 t21 := Tryz.underlying21
 a21 := Tryz.isAgg21
 z21 := Tryz.sizeOf21
 v21 := Tryz.zeroValue21
 t46 := Tryz.underlying123
 a46 := Tryz.isAgg123
 z46 := Tryz.sizeOf123
 v46 := Tryz.zeroValue123
 t116 := Tryz.underlying168
 a116 := Tryz.isAgg168
 z116 := Tryz.sizeOf168
 t117 := Tryz.underlying169
 a117 := Tryz.isAgg169
 z117 := Tryz.sizeOf169
 v117 := Tryz.zeroValue169
 t124 := Tryz.underlying172
 a124 := Tryz.isAgg172
 z124 := Tryz.sizeOf172
 v124 := Tryz.zeroValue172 }
open Go.RowKit Go.Lib in
theorem Tryz.strings_IndexAny_long (hv116 : ∀ w, (zeroValue 168).run Tryz.prog w = .ok (.agg (Array.replicate 256 (.bool false))) w) (s chars : ByteArray) (w : World) (h2 : 2 ≤ chars.size) (h8 : 8 < s.size) (hs : s.size < 4294967281) (hcs : chars.size < 4294967281) (hascii : ∀ (j : Nat) b, chars.data.toList[j]? = some b → b.toNat < 128) :
  Calls Tryz.prog 125 #[.string s, .string chars] w fun e w' => e = .returned (.int .i64 (Lib.indexAny s.data.toList chars.data.toList)) ∧ w' = ((w.alloc (.cells (Lib.setCells chars.data.toList) 168)).alloc (.cells (Lib.setCells chars.data.toList) 168)) := Any.strings_IndexAny_long Tryz.lays153 hv116 (by kernel_rfl) s chars w h2 h8 hs hcs hascii
end Go.Proofs


namespace Go.Proofs.YtliaddbbmnfioaaGreatDoor
open Go.RowKit Go.Sort
variable [AFq]
set_option linter.unusedSectionVars false
set_option linter.unusedVariables false
structure En where
 mode : Int
 name : List UInt8
 id : List UInt8
def AIH (e : En) : List UInt8 := if e.mode = 16384 then e.name ++ [47] else e.name
def ARO (e : En) : List Value := .int .i64 e.mode :: .string (str e.name) :: e.id.map fun b => Value.int .u8 b.toNat
theorem A8S {n : List UInt8} {b : UInt8} : str n ++ (⟨#[b]⟩ : ByteArray) = str (n ++ [b]) := by
 apply ByteArray.ext
 simp [str]
set_option maxHeartbeats 2000000 in
set_option maxRecDepth 100000 in
theorem AZV (e : En) (h20 : e.id.length = 20) (hnl : e.name.length ≤ 1000000000) (w : World) : Calls Tryz.prog 84 #[.agg (ARO e).toArray] w fun r w' => r = .returned (.string (str (AIH e))) ∧ w' = w.alloc (.cells (ARO e).toArray 60) := by
 obtain ⟨m, n, d⟩ := e
 simp only [ARO] at *
 have lI : (d.map fun b => Value.int .u8 b.toNat).length = 20 := by simpa using h20
 generalize (d.map fun b => Value.int .u8 b.toNat) = I at *
 have lx : (Value.int .i64 m :: Value.string (str n) :: I).toArray.size = 22 := by simp [lI]
 have g0 : (Value.int .i64 m :: Value.string (str n) :: I).toArray[0]'(by rw [lx]; omega) = .int .i64 m := rfl
 have g1 : (Value.int .i64 m :: Value.string (str n) :: I).toArray[1]'(by rw [lx]; omega) = .string (str n) := rfl
 generalize (Value.int .i64 m :: Value.string (str n) :: I).toArray = xs at *
 by_cases hm : m = 16384
 ·subst hm
  go_enter Tryz.func84, Tryz.ntmps84
  have hsz : (str n).size = n.length := by simp [str, ByteArray.size]
  go_wp2
  go_ret
  refine ⟨?_, rfl⟩
  unfold AIH; rw [if_pos rfl]
  show Ending.returned (.string (str n ++ ⟨#[47]⟩)) = _
  rw [A8S]
 ·go_enter Tryz.func84, Tryz.ntmps84
  go_wp2
  go_ret
  exact ⟨by unfold AIH; rw [if_neg hm]; rfl, rfl⟩
theorem AWr {P : Program} {w : World} {t : TypeId} {sz b : Nat} {xs : Array Value} {tt : TypeId} {fr : Nat × Nat} (h1 : AWM P t = some true) (h2 : ARR P t = some sz) (hh : w.heap[b]? = some (.cells xs tt fr)) (hs : xs.size = sz) :
  (Instr.loadAt t (.pointer (some ⟨b, 0, none⟩))).run P w = .ok (.agg xs) w := by
 have hlc := run_loadCells_list (P := P) w ⟨b, 0, none⟩ xs.toList (fun j u hj => by
  rw [AGk, Nat.zero_add]
  simp only [World.cell?, hh]
  simpa using hj)
 rw [Array.length_toList, hs] at hlc
 simp [Instr.loadAt, Instr.sureAddr, loadVar, AIe h1, AGb h2, hlc]
theorem A9G {P : Program} {C : World → Prop} {o : Oper} {a : Act} {v : Value} {t : TypeId} {x : Operand} (ho : o.op = .load t x) (hr : ∀ w, C w → (Instr.loadAt t (a.eval x)).run P w = .ok v w) {K : Act → Prop} (hK : K (a.put o.dst v)) : o.quiet P a C K :=
 ⟨v, fun w hw => by
  have e : execOp a.eval o = (do pure (.value (← Instr.loadAt t (a.eval x)))) := by simp only [execOp, ho]
  unfold Oper.quietAt
  rw [e]
  simp [hr w hw, Oper.quietUpon], hK⟩
abbrev EnS := {e : En // e.id.length = 20 ∧ e.name.length ≤ 1000000000}
def A7P (x y : EnS) : Int := Lib.compareBytes (AIH x.1) (AIH y.1)
set_option maxHeartbeats 4000000 in
set_option maxRecDepth 100000 in
theorem AXA (x y : EnS) (w : World) : Calls Tryz.prog 48 #[.agg (ARO x.1).toArray, .agg (ARO y.1).toArray] w fun e w' => e = .returned (.int .i64 (A7P x y)) ∧ ∃ q os', w' = Sort.grow (w.drewN q) os' := by
 have hx := fun W => AZV x.1 x.2.1 x.2.2 W
 have hy := fun W => AZV y.1 y.2.1 y.2.2 W
 have hc := fun W => Tryz.strings_Compare (str (AIH x.1)) (str (AIH y.1)) W
 have e1 : (str (AIH x.1)).data.toList = AIH x.1 := by simp [str]
 have e2 : (str (AIH y.1)).data.toList = AIH y.1 := by simp [str]
 rw [e1, e2] at hc
 have e3 : Lib.compareBytes (AIH x.1) (AIH y.1) = A7P x y := rfl
 rw [e3] at hc
 generalize A7P x y = z at *
 generalize str (AIH x.1) = kx at *
 generalize str (AIH y.1) = ky at *
 have lx : (ARO x.1).toArray.size = 22 := by simp [ARO, x.2.1]
 have ly : (ARO y.1).toArray.size = 22 := by simp [ARO, y.2.1]
 generalize (ARO x.1).toArray = xs at *
 generalize (ARO y.1).toArray = ys at *
 go_enter Tryz.func48, Tryz.ntmps48
 go_wp2
 obtain ⟨W0, hW0⟩ : ∃ W0, W0 = (w.alloc (.cells xs 60)).alloc (.cells ys 60) := ⟨_, rfl⟩
 rw [← hW0]
 have hx0 : ∀ q os', (Sort.grow (W0.drewN q) os').heap[w.heap.size]? = some (.cells xs 60 (0, 0)) := fun q os' => by
  show (W0.heap ++ os')[w.heap.size]? = _
  rw [hW0]
  show (((w.heap.push _).push _) ++ os')[w.heap.size]? = _
  rw [Array.getElem?_append, if_pos (by simp; omega), Array.getElem?_push, if_neg (by simp), Array.getElem?_push, if_pos rfl]
 have hy0 : ∀ q os', (Sort.grow (W0.drewN q) os').heap[w.heap.size + 1]? = some (.cells ys 60 (0, 0)) := fun q os' => by
  show (W0.heap ++ os')[w.heap.size + 1]? = _
  rw [hW0]
  show (((w.heap.push _).push _) ++ os')[w.heap.size + 1]? = _
  rw [Array.getElem?_append, if_pos (by simp), Array.getElem?_push, if_pos (by simp)]
 have hfin : ∀ q os', ∃ q2 os2, Sort.grow (W0.drewN q) os' = Sort.grow (w.drewN q2) os2 := fun q os' => by
  refine ⟨q, #[.cells xs 60 (0, 0), .cells ys 60 (0, 0)] ++ os', ?_⟩
  rw [hW0]
  have e : ((w.heap.push (.cells xs 60 (0, 0))).push (.cells ys 60 (0, 0))) ++ os' = w.heap ++ (#[.cells xs 60 (0, 0), .cells ys 60 (0, 0)] ++ os') := by
   apply Array.ext'; simp
  show { w.drewN q with heap := ((w.heap.push (.cells xs 60 (0, 0))).push (.cells ys 60 (0, 0))) ++ os' } = _
  rw [e]; rfl
 have hC0 : (fun w' => ∃ q os', w' = Sort.grow (W0.drewN q) os') { W0 with drawn := W0.drawn + 1 } := ⟨1, #[], by simp [Sort.grow]; rfl⟩
 have hgrow : ∀ q os' o, (Sort.grow (W0.drewN q) os').alloc o = Sort.grow (W0.drewN q) (os'.push o) := fun q os' o => by
  have e : (W0.heap ++ os').push o = W0.heap ++ os'.push o := by apply Array.ext'; simp
  show { W0.drewN q with heap := (W0.heap ++ os').push o } = _
  rw [e]; rfl
 clear hW0
 refine wp_region_quiet (C := fun w' => ∃ q os', w' = Sort.grow (W0.drewN q) os') (by kernel_rfl) (by kernel_rfl) hC0 ?_
 refine wpQuiet_step (fun K hK => ?_)
 go_simp
 refine ⟨_, fun _ _ _ _ => rfl, hK _ ?_⟩; clear hK K
 refine wpQuiet_step (fun K hK => ?_)
 rw [if_pos (by rfl)]
 refine A9G (v := .agg xs) rfl ?_ (hK _ ?_)
 ·rintro _ ⟨q, os', rfl⟩
  exact AWr (by kernel_rfl) (by kernel_rfl) (hx0 q os') lx
 clear hK K
 refine wpQuiet_step (fun K hK => ?_)
 go_simp
 refine ⟨.string kx, ?_, hK _ ?_⟩
 ·rintro _ q os' rfl
  exact (hx _).mono fun e w' h => ⟨h.1, q, _, h.2.trans (hgrow q os' _)⟩
 clear hK K
 refine wpQuiet_step (fun K hK => ?_)
 go_simp
 refine ⟨_, fun _ _ _ _ => rfl, hK _ ?_⟩; clear hK K
 refine wpQuiet_step (fun K hK => ?_)
 rw [if_pos (by rfl)]
 refine A9G (v := .agg ys) rfl ?_ (hK _ ?_)
 ·rintro _ ⟨q, os', rfl⟩
  exact AWr (by kernel_rfl) (by kernel_rfl) (hy0 q os') ly
 clear hK K
 refine wpQuiet_step (fun K hK => ?_)
 go_simp
 refine ⟨.string ky, ?_, hK _ ?_⟩
 ·rintro _ q os' rfl
  exact (hy _).mono fun e w' h => ⟨h.1, q, _, h.2.trans (hgrow q os' _)⟩
 clear hK K
 refine wpQuiet_step (fun K hK => ?_)
 go_simp
 refine ⟨.int .i64 z, ?_, hK _ ?_⟩
 ·rintro _ q os' rfl
  exact (hc _).mono fun e w' h => ⟨h.1, q, os', h.2⟩
 clear hK K
 refine wpQuiet_step (fun K hK => ?_)
 go_simp
 refine ⟨_, fun _ _ _ _ => rfl, hK _ ?_⟩; clear hK K
 refine wpQuiet_nil ?_
 rintro w' ⟨q, os', rfl⟩
 obtain ⟨q2, os2, e⟩ := hfin q os'
 go_wp2
 go_ret
 exact ⟨rfl, q2, os2, rfl⟩
end Go.Proofs.YtliaddbbmnfioaaGreatDoor


namespace Go.Proofs.YtliaddbbmnfioaaGreatDoor
variable [AFq]
set_option linter.unusedSectionVars false
set_option linter.unusedVariables false
set_option linter.defProp false
set_option maxRecDepth 100000

def ALn : AE9 := .seq (.ops [po_ 4 (.mov (.c (.bool false)))] [0, 1])
 (.seq (.ops [mv_ 5 0,
  mv_ 6 1,
  so_ 7 (.call 125 [.t 5, .t 6]),
  po_ 8 (.bin 3 .geq (.t 7) (ci_ 0)),
  mv_ 4 8] [4])
 (.ret))
def ALY : List VR := [.tmp 4]
theorem AS0 : Tryz.f90.body.bind (trC Tryz.prog Tryz.f90.ntmps) = some (er ALn) := by kernel_rfl
theorem ASf : trR Tryz.prog Tryz.f90.results.toList = some ALY := by kernel_rfl
def AQ2 := AE8 ALn.eq_1
theorem AQR {K : TV → Prop} {e : Env} {H : List Ob} : res ALY e H K = res [.tmp 4] e H K := AE7 rfl
def ALN := (And.intro @AQ2 @AQR)
def ARU := AH5 9 Tryz.func90 AS0 ASf rfl

def ALV : AE9 := .seq (.ops [mv_ 16 1,
  po_ 17 (.idxS (.t 16) (ci_ 0)),
  po_ 18 (.conv .i32 (.t 17)),
  mv_ 5 18] [0, 5])
 (.seq (.seq (.ops [mv_ 19 5,
  po_ 20 (.bin 21 .geq (.t 19) (.c (.int .i32 ((128 : Nat) : Int))))] [0, 5, 20])
 (.cond (.t 20)
 (.ops [po_ 5 (.mov (.c (.int .i32 ((65533 : Nat) : Int))))] [0, 5])
 (.skip)))
 (.seq (.ops [mv_ 21 0,
  mv_ 22 5,
  so_ 23 (.call 157 [.t 21, .t 22]),
  mv_ 4 23] [4])
 (.ret)))
def ALP : AE9 := .seq (.seq (.ops [mv_ 33 8,
  mv_ 34 0,
  po_ 35 (.lenS (.t 34)),
  po_ 36 (.bin 3 .lss (.t 33) (.t 35))] [0, 6, 8, 36])
 (.cond (.t 36)
 (.skip)
 (.exit 0)))
 (.seq (.block 1 (.seq (.ops [mv_ 39 0,
  mv_ 40 8,
  po_ 41 (.idxS (.t 39) (.t 40)),
  so_ 42 (.call 130 [.t 6, .t 41])] [0, 6, 8, 42])
 (.cond (.t 42)
 (.seq (.ops [mv_ 43 8,
   mv_ 4 43] [4])
  (.ret))
 (.skip))))
 (.ops [mv_ 37 8,
  po_ 38 (.bin 3 .add (.t 37) (ci_ 1)),
  mv_ 8 38] [0, 6, 8]))
def ALx : AE9 := .block 0 (.loop [0, 6, 8] ALP)
def ALp : AE9 := .seq (.ops [po_ 4 (.mov (.c (.int .i64 (-1))))] [4])
 (.ret)
def ALs : AE9 := .seq (.seq (.ops [po_ 8 (.mov (ci_ 0))] [0, 6, 8])
 ALx)
 ALp
def ALw : AE9 := .cond (.t 32)
 ALs
 (.skip)
def AL2 : AE9 := .seq (.ops [mv_ 32 7] [0, 1, 6, 32])
 ALw
def AL7 : AE9 := .seq (.ops [mv_ 28 1,
  so_ 29 (.call 95 [.t 28]),
  mv_ 27 29,
  po_ 30 (.ext 0 (.t 27)),
  po_ 31 (.ext 1 (.t 27)),
  so_ 6 (.alloc (.arr 256 1 [.val (.bool false), .val (.bool false), .val (.bool false), .val (.bool false), .val (.bool false), .val (.bool false), .val (.bool false), .val (.bool false), .val (.bool false), .val (.bool false), .val (.bool false), .val (.bool false), .val (.bool false), .val (.bool false), .val (.bool false), .val (.bool false), .val (.bool false), .val (.bool false), .val (.bool false), .val (.bool false), .val (.bool false), .val (.bool false), .val (.bool false), .val (.bool false), .val (.bool false), .val (.bool false), .val (.bool false), .val (.bool false), .val (.bool false), .val (.bool false), .val (.bool false), .val (.bool false), .val (.bool false), .val (.bool false), .val (.bool false), .val (.bool false), .val (.bool false), .val (.bool false), .val (.bool false), .val (.bool false), .val (.bool false), .val (.bool false), .val (.bool false), .val (.bool false), .val (.bool false), .val (.bool false), .val (.bool false), .val (.bool false), .val (.bool false), .val (.bool false), .val (.bool false), .val (.bool false), .val (.bool false), .val (.bool false), .val (.bool false), .val (.bool false), .val (.bool false), .val (.bool false), .val (.bool false), .val (.bool false), .val (.bool false), .val (.bool false), .val (.bool false), .val (.bool false), .val (.bool false), .val (.bool false), .val (.bool false), .val (.bool false), .val (.bool false), .val (.bool false), .val (.bool false), .val (.bool false), .val (.bool false), .val (.bool false), .val (.bool false), .val (.bool false), .val (.bool false), .val (.bool false), .val (.bool false), .val (.bool false), .val (.bool false), .val (.bool false), .val (.bool false), .val (.bool false), .val (.bool false), .val (.bool false), .val (.bool false), .val (.bool false), .val (.bool false), .val (.bool false), .val (.bool false), .val (.bool false), .val (.bool false), .val (.bool false), .val (.bool false), .val (.bool false), .val (.bool false), .val (.bool false), .val (.bool false), .val (.bool false), .val (.bool false), .val (.bool false), .val (.bool false), .val (.bool false), .val (.bool false), .val (.bool false), .val (.bool false), .val (.bool false), .val (.bool false), .val (.bool false), .val (.bool false), .val (.bool false), .val (.bool false), .val (.bool false), .val (.bool false), .val (.bool false), .val (.bool false), .val (.bool false), .val (.bool false), .val (.bool false), .val (.bool false), .val (.bool false), .val (.bool false), .val (.bool false), .val (.bool false), .val (.bool false), .val (.bool false), .val (.bool false), .val (.bool false), .val (.bool false), .val (.bool false), .val (.bool false), .val (.bool false), .val (.bool false), .val (.bool false), .val (.bool false), .val (.bool false), .val (.bool false), .val (.bool false), .val (.bool false), .val (.bool false), .val (.bool false), .val (.bool false), .val (.bool false), .val (.bool false), .val (.bool false), .val (.bool false), .val (.bool false), .val (.bool false), .val (.bool false), .val (.bool false), .val (.bool false), .val (.bool false), .val (.bool false), .val (.bool false), .val (.bool false), .val (.bool false), .val (.bool false), .val (.bool false), .val (.bool false), .val (.bool false), .val (.bool false), .val (.bool false), .val (.bool false), .val (.bool false), .val (.bool false), .val (.bool false), .val (.bool false), .val (.bool false), .val (.bool false), .val (.bool false), .val (.bool false), .val (.bool false), .val (.bool false), .val (.bool false), .val (.bool false), .val (.bool false), .val (.bool false), .val (.bool false), .val (.bool false), .val (.bool false), .val (.bool false), .val (.bool false), .val (.bool false), .val (.bool false), .val (.bool false), .val (.bool false), .val (.bool false), .val (.bool false), .val (.bool false), .val (.bool false), .val (.bool false), .val (.bool false), .val (.bool false), .val (.bool false), .val (.bool false), .val (.bool false), .val (.bool false), .val (.bool false), .val (.bool false), .val (.bool false), .val (.bool false), .val (.bool false), .val (.bool false), .val (.bool false), .val (.bool false), .val (.bool false), .val (.bool false), .val (.bool false), .val (.bool false), .val (.bool false), .val (.bool false), .val (.bool false), .val (.bool false), .val (.bool false), .val (.bool false), .val (.bool false), .val (.bool false), .val (.bool false), .val (.bool false), .val (.bool false), .val (.bool false), .val (.bool false), .val (.bool false), .val (.bool false), .val (.bool false), .val (.bool false), .val (.bool false), .val (.bool false), .val (.bool false), .val (.bool false), .val (.bool false), .val (.bool false), .val (.bool false), .val (.bool false), .val (.bool false), .val (.bool false), .val (.bool false), .val (.bool false), .val (.bool false), .val (.bool false), .val (.bool false), .val (.bool false), .val (.bool false), .val (.bool false), .val (.bool false), .val (.bool false), .val (.bool false), .val (.bool false), .val (.bool false), .val (.bool false), .val (.bool false), .val (.bool false), .val (.bool false), .val (.bool false), .val (.bool false)])),
  ⟨none, .s (.store 256 (.t 6) (.t 30)), none⟩,
  mv_ 7 31] [0, 1, 6, 7])
 AL2
def ALA : AE9 := .cond (.t 26)
 AL7
 (.skip)
def AKD : AE9 := .seq (.ops [so_ 46 (.nxtS (.t 45)),
  po_ 47 (.ext 0 (.t 46))] [1, 45, 46, 47])
 (.seq (.cond (.t 47)
 (.skip)
 (.exit 2))
 (.block 3 (.seq (.ops [po_ 48 (.ext 1 (.t 46)),
  po_ 49 (.ext 2 (.t 46)),
  mv_ 9 48,
  mv_ 10 49] [1, 9, 10, 45])
 (.seq (.ops [mv_ 50 1,
  mv_ 51 10,
  so_ 52 (.call 157 [.t 50, .t 51]),
  po_ 53 (.bin 3 .geq (.t 52) (ci_ 0))] [1, 9, 45, 53])
 (.cond (.t 53)
 (.seq (.ops [mv_ 54 9,
   mv_ 4 54] [4])
  (.ret))
 (.skip))))))
def AKn : AE9 := .seq (.ops [po_ 4 (.mov (.c (.int .i64 (-1))))] [4])
 (.ret)
def AKw : AE9 := .seq (.seq (.ops [mv_ 44 0,
  so_ 45 (.rngS (.t 44))] [1, 45])
 (.block 2 (.loop [1, 45] AKD)))
 AKn
def AKk : AE9 := .seq (.seq (.ops [mv_ 24 0,
  po_ 25 (.lenS (.t 24)),
  so_ 26 (.call 158 [.t 25])] [0, 1, 26])
 ALA)
 AKw
def AKv : AE9 := .seq (.seq (.ops [mv_ 13 1,
  po_ 14 (.lenS (.t 13)),
  po_ 15 (.bin 3 .eql (.t 14) (ci_ 1))] [0, 1, 15])
 (.cond (.t 15)
 ALV
 (.skip)))
 AKk
def AKz : AE9 := .seq (.seq (.ops [mv_ 11 1,
  po_ 12 (.bin 9 .eql (.t 11) (.c (.string (str []))))] [0, 1, 12])
 (.cond (.t 12)
 (.seq (.ops [po_ 4 (.mov (.c (.int .i64 (-1))))] [4])
  (.ret))
 (.skip)))
 AKv
def AOp : AE9 := .seq (.ops [po_ 4 (.mov (ci_ 0))] [0, 1])
 AKz
def AOb : List VR := [.tmp 4]
theorem AVc : Tryz.f125.body.bind (trC Tryz.prog Tryz.f125.ntmps) = some (er AOp) := by kernel_rfl
theorem AVm : trR Tryz.prog Tryz.f125.results.toList = some AOb := by kernel_rfl
def AQ4 := AE8 ALV.eq_1
def AQW := AE8 ALP.eq_1
def AQ9 := AE8 ALx.eq_1
def AQZ := AE8 ALp.eq_1
def AQ6 := AE8 ALs.eq_1
def ARa := AE8 ALw.eq_1
def AQL := AE8 AL2.eq_1
def AQM := AE8 AL7.eq_1
def AQG := AE8 ALA.eq_1
def APj := AE8 AKD.eq_1
def APX := AE8 AKn.eq_1
def APK := AE8 AKw.eq_1
def AQz := AE8 AKk.eq_1
def APO := AE8 AKv.eq_1
def AQt := AE8 AKz.eq_1
def ATk := AE8 AOp.eq_1
theorem ATb {K : TV → Prop} {e : Env} {H : List Ob} : res AOb e H K = res [.tmp 4] e H K := AE7 rfl
def AGc := (And.intro (And.intro (And.intro (And.intro (And.intro @AQ4 @AQW) (And.intro @AQ9 @AQZ)) (And.intro (And.intro @AQ6 @ARa) (And.intro @AQL @AQM))) (And.intro (And.intro (And.intro @AQG @APj) (And.intro @APX @APK)) (And.intro (And.intro @AQz @APO) (And.intro @AQt @ATk)))) @ATb)
def AT4 := AH5 55 Tryz.func125 AVc AVm rfl

def AKK : AE9 := .seq (.ops [so_ 176 (.nxtS (.t 175)),
  po_ 177 (.ext 0 (.t 176))] [175, 176, 177])
 (.seq (.cond (.t 177)
 (.skip)
 (.exit 9))
 (.block 10 (.seq (.ops [po_ 178 (.ext 1 (.t 176)),
  po_ 179 (.ext 2 (.t 176)),
  mv_ 5 178,
  mv_ 6 179] [5, 6, 175])
 (.seq (.ops [mv_ 180 6,
  po_ 181 (.bin 21 .eql (.t 180) (.c (.int .i32 ((65533 : Nat) : Int))))] [5, 175, 181])
 (.cond (.t 181)
 (.seq (.ops [mv_ 182 5,
   mv_ 4 182] [4])
  (.ret))
 (.skip))))))
def AKM : AE9 := .seq (.ops [po_ 4 (.mov (.c (.int .i64 (-1))))] [4])
 (.ret)
def AKG : AE9 := .seq (.seq (.ops [mv_ 174 0,
  so_ 175 (.rngS (.t 174))] [175])
 (.block 9 (.loop [175] AKK)))
 AKM
def AKB : AE9 := .seq (.draw 4 [mv_ 34 0,
  mv_ 35 9,
  po_ 36 (.bin 3 .add (.t 35) (ci_ 1)),
  po_ 37 (.slS (.t 34) (some (.t 36)) none),
  mv_ 38 7,
  mv_ 39 8,
  po_ 40 (.idxS (.t 38) (.t 39)),
  so_ 41 (.call 136 [.t 37, .t 40]),
  mv_ 11 41] [0, 7, 8, 9, 11])
 (.seq (.seq (.ops [mv_ 42 11,
  po_ 43 (.bin 3 .lss (.t 42) (ci_ 0))] [0, 7, 8, 9, 11, 43])
 (.cond (.t 43)
 (.seq (.ops [po_ 4 (.mov (.c (.int .i64 (-1))))] [4])
  (.ret))
 (.skip)))
 (.ops [mv_ 44 9,
  mv_ 45 11,
  po_ 46 (.bin 3 .add (.t 45) (ci_ 1)),
  po_ 47 (.bin 3 .add (.t 44) (.t 46)),
  mv_ 9 47] [0, 7, 8, 9]))
def AKF : AE9 := .cond (.t 33)
 AKB
 (.skip)
def AKN : AE9 := .seq (.block 4 (.seq (.draw 6 [mv_ 54 0,
  mv_ 55 9,
  mv_ 56 12,
  po_ 57 (.bin 3 .sub (.t 55) (.t 56)),
  po_ 58 (.idxS (.t 54) (.t 57)),
  mv_ 59 7,
  mv_ 60 8,
  mv_ 61 12,
  po_ 62 (.bin 3 .sub (.t 60) (.t 61)),
  po_ 63 (.idxS (.t 59) (.t 62)),
  po_ 64 (.bin 5 .neq (.t 58) (.t 63))] [0, 7, 8, 9, 12, 64])
 (.cond (.t 64)
 (.dead)
 (.skip))))
 (.ops [mv_ 52 12,
  po_ 53 (.bin 3 .add (.t 52) (ci_ 1)),
  mv_ 12 53] [0, 7, 8, 9, 12])
def AKq : AE9 := .seq (.seq (.ops [mv_ 48 12,
  mv_ 49 7,
  po_ 50 (.lenS (.t 49)),
  po_ 51 (.bin 3 .lss (.t 48) (.t 50))] [0, 7, 8, 9, 12, 51])
 (.cond (.t 51)
 (.skip)
 (.exit 3)))
 AKN
def AKs : AE9 := .block 3 (.loop [0, 7, 8, 9, 12] AKq)
def AKl : AE9 := .seq (.ops [po_ 72 (.mov (.c (.bool true))),
  ⟨some 73, .p (.mov (.t 10)), some ⟨72, true⟩⟩,
  ⟨some 74, .p (.mov (.t 9)), some ⟨72, true⟩⟩,
  ⟨some 75, .s (.call 149 [.t 74]), some ⟨72, true⟩⟩,
  ⟨some 76, .p (.bin 3 .gtr (.t 73) (.t 75)), some ⟨72, true⟩⟩,
  po_ 77 (.pick (.t 72) (.t 76) (.c (.bool false))),
  mv_ 78 77,
  ⟨some 79, .p (.mov (.t 9)), some ⟨78, true⟩⟩,
  ⟨some 80, .p (.mov (.t 0)), some ⟨78, true⟩⟩,
  ⟨some 81, .p (.lenS (.t 80)), some ⟨78, true⟩⟩,
  ⟨some 82, .p (.bin 3 .lss (.t 79) (.t 81)), some ⟨78, true⟩⟩,
  po_ 83 (.pick (.t 78) (.t 82) (.c (.bool false))),
  mv_ 84 83,
  ⟨some 85, .p (.mov (.c (.bool false))), some ⟨84, false⟩⟩,
  ⟨some 86, .p (.mov (.t 10)), some ⟨85, true⟩⟩,
  ⟨some 87, .p (.mov (.t 9)), some ⟨85, true⟩⟩,
  ⟨some 88, .p (.bin 3 .shr (.t 87) (.c (.int .u64 ((4 : Nat) : Int)))), some ⟨85, true⟩⟩,
  ⟨some 89, .p (.bin 3 .add (ci_ 4) (.t 88)), some ⟨85, true⟩⟩,
  ⟨some 90, .p (.bin 3 .geq (.t 86) (.t 89)), some ⟨85, true⟩⟩,
  ⟨some 91, .p (.pick (.t 85) (.t 90) (.c (.bool false))), some ⟨84, false⟩⟩,
  ⟨some 92, .p (.mov (.t 91)), some ⟨84, false⟩⟩,
  ⟨some 93, .p (.mov (.t 9)), some ⟨92, true⟩⟩,
  ⟨some 94, .p (.mov (.t 0)), some ⟨92, true⟩⟩,
  ⟨some 95, .p (.lenS (.t 94)), some ⟨92, true⟩⟩,
  ⟨some 96, .p (.bin 3 .lss (.t 93) (.t 95)), some ⟨92, true⟩⟩,
  ⟨some 97, .p (.pick (.t 92) (.t 96) (.c (.bool false))), some ⟨84, false⟩⟩,
  po_ 98 (.pick (.t 84) (.c (.bool true)) (.t 97))] [0, 7, 8, 9, 98])
 (.cond (.t 98)
 (.dead)
 (.skip))
def AJ8 : AE9 := .seq (.ops [mv_ 70 9,
  po_ 71 (.bin 3 .add (.t 70) (ci_ 1)),
  mv_ 9 71] [0, 7, 8, 9, 10])
 AKl
def AJl : AE9 := .seq (.ops [mv_ 68 10,
  po_ 69 (.bin 3 .add (.t 68) (ci_ 1)),
  mv_ 10 69] [0, 7, 8, 9, 10])
 AJ8
def AJU : AE9 := .seq (.skip)
 AJl
def AJW : AE9 := .seq (.seq (.ops [mv_ 65 9,
  mv_ 66 8,
  po_ 67 (.bin 3 .sub (.t 65) (.t 66)),
  mv_ 4 67] [4])
 (.ret))
 AJU
def AJr : AE9 := .seq (.seq (.ops [po_ 12 (.mov (ci_ 1))] [0, 7, 8, 9, 12])
 AKs)
 AJW
def AJz : AE9 := .block 2 (.scope (.seq (.seq (.draw 3 [mv_ 27 0,
  mv_ 28 9,
  po_ 29 (.idxS (.t 27) (.t 28)),
  mv_ 30 7,
  mv_ 31 8,
  po_ 32 (.idxS (.t 30) (.t 31)),
  po_ 33 (.bin 5 .neq (.t 29) (.t 32))] [0, 7, 8, 9, 33])
 AKF)
 AJr))
def AJE : AE9 := .seq (.seq (.ops [mv_ 23 9,
  mv_ 24 0,
  po_ 25 (.lenS (.t 24)),
  po_ 26 (.bin 3 .lss (.t 23) (.t 25))] [0, 7, 8, 9, 26])
 (.cond (.t 26)
 (.skip)
 (.exit 1)))
 AJz
def AJe : AE9 := .seq (.dead)
 (.seq (.ops [mv_ 107 13,
  po_ 108 (.bin 3 .geq (.t 107) (ci_ 0))] [8, 9, 13, 108])
 (.cond (.t 108)
 (.seq (.ops [mv_ 109 9,
   mv_ 110 13,
   po_ 111 (.bin 3 .add (.t 109) (.t 110)),
   mv_ 112 8,
   po_ 113 (.bin 3 .sub (.t 111) (.t 112)),
   mv_ 4 113] [4])
  (.ret))
 (.skip)))
def AJt : AE9 := .seq (.block 8 (.seq (.draw 6 [mv_ 146 0,
  mv_ 147 9,
  mv_ 148 16,
  po_ 149 (.bin 3 .sub (.t 147) (.t 148)),
  po_ 150 (.idxS (.t 146) (.t 149)),
  mv_ 151 7,
  mv_ 152 8,
  mv_ 153 16,
  po_ 154 (.bin 3 .sub (.t 152) (.t 153)),
  po_ 155 (.idxS (.t 151) (.t 154)),
  po_ 156 (.bin 5 .neq (.t 150) (.t 155))] [0, 7, 8, 9, 14, 15, 16, 156])
 (.cond (.t 156)
 (.exit 6)
 (.skip))))
 (.ops [mv_ 144 16,
  po_ 145 (.bin 3 .add (.t 144) (ci_ 1)),
  mv_ 16 145] [0, 7, 8, 9, 14, 15, 16])
def AJs : AE9 := .seq (.seq (.ops [mv_ 140 16,
  mv_ 141 7,
  po_ 142 (.lenS (.t 141)),
  po_ 143 (.bin 3 .lss (.t 140) (.t 142))] [0, 7, 8, 9, 14, 15, 16, 143])
 (.cond (.t 143)
 (.skip)
 (.exit 7)))
 AJt
def AJG : AE9 := .block 7 (.loop [0, 7, 8, 9, 14, 15, 16] AJs)
def AJF : AE9 := .seq (.ops [mv_ 157 9,
  mv_ 158 8,
  po_ 159 (.bin 3 .sub (.t 157) (.t 158)),
  mv_ 4 159] [4])
 (.ret)
def AJV : AE9 := .seq (.seq (.ops [po_ 16 (.mov (ci_ 2))] [0, 7, 8, 9, 14, 15, 16])
 AJG)
 AJF
def AJg : AE9 := .cond (.t 139)
 AJV
 (.skip)
def AJR : AE9 := .ops [mv_ 125 9,
  po_ 126 (.bin 3 .add (.t 125) (ci_ 1)),
  mv_ 9 126] [0, 7, 8, 9, 14, 15]
def AJp : AE9 := .seq (.block 6 (.seq (.ops [mv_ 127 0,
  mv_ 128 9,
  po_ 129 (.idxS (.t 127) (.t 128)),
  mv_ 130 14,
  po_ 131 (.bin 5 .eql (.t 129) (.t 130)),
  mv_ 132 131,
  ⟨some 133, .p (.mov (.t 0)), some ⟨132, true⟩⟩,
  ⟨some 134, .p (.mov (.t 9)), some ⟨132, true⟩⟩,
  ⟨some 135, .p (.bin 3 .sub (.t 134) (ci_ 1)), some ⟨132, true⟩⟩,
  ⟨some 136, .p (.idxS (.t 133) (.t 135)), some ⟨132, true⟩⟩,
  ⟨some 137, .p (.mov (.t 15)), some ⟨132, true⟩⟩,
  ⟨some 138, .p (.bin 5 .eql (.t 136) (.t 137)), some ⟨132, true⟩⟩,
  po_ 139 (.pick (.t 132) (.t 138) (.c (.bool false)))] [0, 7, 8, 9, 14, 15, 139])
 AJg))
 AJR
def AJ5 : AE9 := .seq (.seq (.ops [mv_ 121 9,
  mv_ 122 0,
  po_ 123 (.lenS (.t 122)),
  po_ 124 (.bin 3 .lss (.t 121) (.t 123))] [0, 7, 8, 9, 14, 15, 124])
 (.cond (.t 124)
 (.skip)
 (.exit 5)))
 AJp
def AJ2 : AE9 := .block 5 (.loop [0, 7, 8, 9, 14, 15] AJ5)
def AJv : AE9 := .seq (.skip)
 AJ2
def AJH : AE9 := .seq (.ops [mv_ 117 7,
  mv_ 118 8,
  po_ 119 (.bin 3 .sub (.t 118) (ci_ 1)),
  po_ 120 (.idxS (.t 117) (.t 119)),
  mv_ 15 120] [0, 7, 8, 9, 14, 15])
 AJv
def AJi : AE9 := .scope (.seq (.ops [mv_ 114 7,
  mv_ 115 8,
  po_ 116 (.idxS (.t 114) (.t 115)),
  mv_ 14 116] [0, 7, 8, 9, 14])
 AJH)
def AJ6 : AE9 := .seq (.ops [po_ 4 (.mov (.c (.int .i64 (-1))))] [4])
 (.ret)
def AJY : AE9 := .seq (.cond (.c (.bool true))
 AJe
 AJi)
 AJ6
def AJ1 : AE9 := .seq (.skip)
 AJY
def AKa : AE9 := .seq (.seq (.ops [po_ 4 (.mov (.c (.int .i64 (-1))))] [4])
 (.ret))
 AJ1
def AJO : AE9 := .seq (.block 1 (.loop [0, 7, 8, 9] AJE))
 AKa
def AJM : AE9 := .seq (.ops [po_ 10 (.mov (ci_ 0))] [0, 7, 8, 9])
 AJO
def AJN : AE9 := .seq (.ops [mv_ 22 8,
  mv_ 9 22] [0, 7, 8, 9])
 AJM
def AJd : AE9 := .seq (.ops [mv_ 19 7,
  po_ 20 (.lenS (.t 19)),
  po_ 21 (.bin 3 .sub (.t 20) (ci_ 1)),
  mv_ 8 21] [0, 7, 8])
 AJN
def AJD : AE9 := .scope (.seq (.ops [mv_ 17 1,
  po_ 18 (.gen .r2s [.t 17]),
  mv_ 7 18] [0, 7])
 AJd)
def AJ9 : AE9 := .cond (.t 183)
 (.seq (.ops [po_ 4 (.mov (.c (.int .i64 (-1))))] [4])
  (.ret))
 AJD
def AJQ : AE9 := .seq (.ops [mv_ 184 1,
  so_ 185 (.call 175 [.t 184]),
  po_ 186 (.un .not (.t 185)),
  mv_ 183 186] [0, 1, 183])
 AJ9
def AJA : AE9 := .cond (.t 171)
 AKG
 AJQ
def AJP : AE9 := .seq (.ops [mv_ 172 1,
  po_ 173 (.bin 21 .eql (.t 172) (.c (.int .i32 ((65533 : Nat) : Int)))),
  mv_ 171 173] [0, 1, 171])
 AJA
def AJ4 : AE9 := .cond (.t 160)
 (.seq (.ops [mv_ 167 0,
   mv_ 168 1,
   po_ 169 (.conv .u8 (.t 168)),
   so_ 170 (.call 136 [.t 167, .t 169]),
   mv_ 4 170] [4])
  (.ret))
 AJP
def AKb : AE9 := .block 0 (.seq (.ops [mv_ 161 1,
  po_ 162 (.bin 21 .leq (.c (.int .i32 ((0 : Nat) : Int))) (.t 161)),
  mv_ 163 162,
  ⟨some 164, .p (.mov (.t 1)), some ⟨163, true⟩⟩,
  ⟨some 165, .p (.bin 21 .lss (.t 164) (.c (.int .i32 ((128 : Nat) : Int)))), some ⟨163, true⟩⟩,
  po_ 166 (.pick (.t 163) (.t 165) (.c (.bool false))),
  mv_ 160 166] [0, 1, 160])
 AJ4)
def ANg : AE9 := .seq (.ops [po_ 4 (.mov (ci_ 0))] [0, 1])
 AKb
def ANx : List VR := [.tmp 4]
theorem AUo : Tryz.f157.body.bind (trC Tryz.prog Tryz.f157.ntmps) = some (er ANg) := by kernel_rfl
theorem ATR : trR Tryz.prog Tryz.f157.results.toList = some ANx := by kernel_rfl
def AQh := AE8 AKK.eq_1
def APs := AE8 AKM.eq_1
def AQs := AE8 AKG.eq_1
def APg := AE8 AKB.eq_1
def AQg := AE8 AKF.eq_1
def APz := AE8 AKN.eq_1
def AP7 := AE8 AKq.eq_1
def APZ := AE8 AKs.eq_1
def AQe := AE8 AKl.eq_1
def AOD := AE8 AJ8.eq_1
def AO3 := AE8 AJl.eq_1
def AOy := AE8 AJU.eq_1
def AOP := AE8 AJW.eq_1
def AOs := AE8 AJr.eq_1
def AOH := AE8 AJz.eq_1
def AOu := AE8 AJE.eq_1
def AOE := AE8 AJe.eq_1
def AOZ := AE8 AJt.eq_1
def AOX := AE8 AJs.eq_1
def AO2 := AE8 AJG.eq_1
def AOt := AE8 AJF.eq_1
def AOK := AE8 AJV.eq_1
def AOO := AE8 AJg.eq_1
def AOR := AE8 AJR.eq_1
def AOx := AE8 AJp.eq_1
def AOS := AE8 AJ5.eq_1
def AOQ := AE8 AJ2.eq_1
def AOz := AE8 AJv.eq_1
def AOG := AE8 AJH.eq_1
def AOT := AE8 AJi.eq_1
def AO9 := AE8 AJ6.eq_1
def AO7 := AE8 AJY.eq_1
def AOM := AE8 AJ1.eq_1
def AOY := AE8 AKa.eq_1
def AO1 := AE8 AJO.eq_1
def AOV := AE8 AJM.eq_1
def AOC := AE8 AJN.eq_1
def AO6 := AE8 AJd.eq_1
def AO0 := AE8 AJD.eq_1
def AOv := AE8 AJ9.eq_1
def AOW := AE8 AJQ.eq_1
def AOI := AE8 AJA.eq_1
def AOU := AE8 AJP.eq_1
def AOJ := AE8 AJ4.eq_1
def AOF := AE8 AKb.eq_1
def ASd := AE8 ANg.eq_1
theorem ASe {K : TV → Prop} {e : Env} {H : List Ob} : res ANx e H K = res [.tmp 4] e H K := AE7 rfl
def AFG := (And.intro (And.intro (And.intro (And.intro (And.intro (And.intro @AQh @APs) (And.intro @AQs @APg)) (And.intro (And.intro @AQg @APz) (And.intro @AP7 @APZ))) (And.intro (And.intro (And.intro @AQe @AOD) (And.intro @AO3 @AOy)) (And.intro (And.intro @AOP @AOs) (And.intro @AOH @AOu)))) (And.intro (And.intro (And.intro (And.intro @AOE @AOZ) (And.intro @AOX @AO2)) (And.intro (And.intro @AOt @AOK) (And.intro @AOO @AOR))) (And.intro (And.intro (And.intro @AOx @AOS) (And.intro @AOQ @AOz)) (And.intro (And.intro @AOG @AOT) (And.intro @AO9 @AO7))))) (And.intro (And.intro (And.intro (And.intro @AOM @AOY) (And.intro @AO1 @AOV)) (And.intro (And.intro @AOC @AO6) (And.intro @AO0 @AOv))) (And.intro (And.intro (And.intro @AOW @AOI) (And.intro @AOU @AOJ)) (And.intro (And.intro @AOF @ASd) @ASe))))
def ATj := AH5 187 Tryz.func157 AUo ATR rfl

def AH3 : AE9 := .seq (.ops [po_ 2 (.mov (.c (.bool false)))] [0])
 (.seq (.ops [mv_ 3 0,
  po_ 4 (.bin 3 .gtr (.t 3) (ci_ 8)),
  mv_ 2 4] [2])
 (.ret))
def AH6 : List VR := [.tmp 2]
theorem ANu : Tryz.f158.body.bind (trC Tryz.prog Tryz.f158.ntmps) = some (er AH3) := by kernel_rfl
theorem AM5 : trR Tryz.prog Tryz.f158.results.toList = some AH6 := by kernel_rfl
def AMd := AE8 AH3.eq_1
theorem AMc {K : TV → Prop} {e : Env} {H : List Ob} : res AH6 e H K = res [.tmp 2] e H K := AE7 rfl
def ANl := (And.intro @AMd @AMc)
def AMR := AH5 5 Tryz.func158 ANu AM5 rfl

end Go.Proofs.YtliaddbbmnfioaaGreatDoor


namespace Go.Proofs.YtliaddbbmnfioaaGreatDoor
open Go.RowKit
class AXi [AFq] : Prop where
 k : ∃ m, AJf 2 = some (.one (.int .i64 m))
variable [AFq]
set_option linter.unusedSectionVars false
set_option linter.unusedVariables false
set_option linter.unusedSimpArgs false

theorem AF9.ofBelow {f : FuncId} {args : List Value} {r : Value} (h : ∀ (F : Nat → Prop) w, AMl F w → Calls Tryz.prog f args.toArray w fun e w' => e = .returned r ∧ Below w.heap.size w w') : AF9 Tryz.prog f (args.map .val) (fun x => x = .val r) := by
 intro β F w vs hF hv
 have hvs : vs = args := by
  clear h hF
  induction args generalizing vs with
  | nil => rw [List.map_nil, AFO.nil] at hv; exact hv
  | cons a args ih =>
   rw [List.map_cons] at hv
   obtain ⟨v, us, rfl, h1, h2⟩ := AFO.cons.1 hv
   have := Rep.val.1 (Or.inl h1 : Rep _ _ _ _)
   rw [this, ih us h2]
 subst hvs
 refine (h F w hF.2).mono ?_
 rintro e w' ⟨rfl, hb⟩
 exact ⟨_, _, F, rfl, rfl, Rep.of_val, ⟨hb.os, hb.tape, hb.output, hb.size, hb.block, fun _ h => h, fun _ _ h => h, fun b hb' => Nat.lt_of_lt_of_le (hF.1 b hb') hb.size⟩⟩
theorem AV5 {B : Nat} (w : World) : Below B w w := ⟨rfl, rfl, rfl, Nat.le_refl _, fun _ _ => rfl⟩
theorem Bd4 (l : List UInt8) : (str l).data.toList = l := by simp [str]
theorem A0k (l : List UInt8) : (str l).size = l.length := by show l.toArray.size = _; simp
theorem A1D (c : UInt8) : ∀ s : List UInt8, 0 ≤ Lib.indexByte s c ↔ c ∈ s
 | [] => by simp [Lib.indexByte]
 | b :: l => by
  have ih := A1D c l
  have hg := Lib.indexByte_ge l c
  rw [Lib.indexByte]
  by_cases e : b = c
  ·simp [e]
  ·rw [if_neg (by simpa using e)]
   have e2 : (c ∈ b :: l) ↔ c ∈ l := by simp [Ne.symm e]
   rw [e2, ← ih]
   by_cases h : (Lib.indexByte l c == -1) = true
   ·rw [if_pos h]
    have h3 : Lib.indexByte l c = -1 := by simpa using h
    rw [h3]
   ·rw [if_neg h]
    have h3 : Lib.indexByte l c ≠ -1 := fun e => h (by rw [e]; rfl)
    omega
section
variable [AFi]
end
end Go.Proofs.YtliaddbbmnfioaaGreatDoor


namespace Go.Proofs.YtliaddbbmnfioaaGreatDoor
open Go.RowKit
variable [AFq]
set_option linter.unusedSectionVars false
set_option linter.unusedSimpArgs false
set_option linter.unusedVariables false
set_option autoImplicit false

section
variable {t : TypeId} {a b : Nat} {k2 : IntKind}
theorem BfX {n : Nat} (h : n < 256) : IntKind.u8.wrap (n : Int) = n := by rw [IntKind.wrap_u8]; omega
theorem bv8 {n : Nat} : (BitVec.ofInt 8 (n : Int)).toNat = n % 256 := by
 rw [BitVec.toNat_ofInt]; omega
theorem A9y : AHJ t .add (.int .u8 (a : Int)) (.int .u8 (b : Int)) = some (.int .u8 (((a + b) % 256 : Nat) : Int)) := by
 rw [show AHJ t .add (.int .u8 (a : Int)) (.int .u8 (b : Int)) = some (.int .u8 (IntKind.u8.wrap ((a : Int) + b))) from rfl, IntKind.wrap_u8]
 congr 2
theorem AZZ (h : b ≤ a) (h2 : a < 256) : AHJ t .sub (.int .u8 (a : Int)) (.int .u8 (b : Int)) = some (.int .u8 ((a - b : Nat) : Int)) := by
 rw [show AHJ t .sub (.int .u8 (a : Int)) (.int .u8 (b : Int)) = some (.int .u8 (IntKind.u8.wrap ((a : Int) - b))) from rfl, IntKind.wrap_u8]
 congr 2; omega
theorem Bgd (h1 : a < 256) (h2 : b < 256) : AHJ t .or (.int .u8 (a : Int)) (.int .u8 (b : Int)) = some (.int .u8 ((a ||| b : Nat) : Int)) := by
 rw [show AHJ t .or (.int .u8 (a : Int)) (.int .u8 (b : Int)) = some (.int .u8 (IntKind.u8.wrap ((BitVec.ofInt 8 a ||| BitVec.ofInt 8 b).toNat : Int))) from rfl, BitVec.toNat_or, bv8, bv8, Nat.mod_eq_of_lt (by omega), Nat.mod_eq_of_lt (by omega)]
 have := Nat.or_lt_two_pow (n := 8) (x := a) (y := b) (by omega) (by omega)
 rw [BfX (by omega)]
end
theorem AGB {l : List UInt8} : bl (str l) = l := by simp [bl, str]
theorem Bb8 {l m : List UInt8} : str l ++ str m = str (l ++ m) := by
 apply ByteArray.ext
 simp [str]
theorem BgZ {t : TypeId} {l m : List UInt8} (h : l.length + m.length ≤ 9223372036854775807) : AHJ t .add (.string (str l)) (.string (str m)) = some (.string (str (l ++ m))) := by
 have e1 : (str l).size = l.length := by show l.toArray.size = _; simp
 have e2 : (str m).size = m.length := by show m.toArray.size = _; simp
 rw [← Bb8, AHJ, binOp_string_add, Op.stringOp]
 simp only [e1, e2]
 rw [if_neg (by show ¬ ((l.length + m.length : Nat) : Int) > 9223372036854775807; omega)]
 rfl
end Go.Proofs.YtliaddbbmnfioaaGreatDoor


namespace Go.Proofs.YtliaddbbmnfioaaGreatDoor
open Go.RowKit
variable [AFq]
set_option linter.unusedSectionVars false
set_option linter.unusedVariables false
set_option linter.unusedSimpArgs false

theorem A3n (r : Int) (h0 : -2147483648 ≤ r) (h1 : r ≤ 2147483647) : AF9 Tryz.prog 175 [.val (.int .i32 r)] (fun x => x = tb (Lib.validRune r)) := by
 have h := AF9.ofBelow (f := 175) (args := [.int .i32 r]) (r := .bool (Lib.validRune r)) (fun F w _ => by
  refine (Tryz.utf8_ValidRune r w).mono ?_
  rintro e w' ⟨rfl, rfl⟩
  exact ⟨rfl, AV5 _⟩)
 exact h
theorem A1R (s : List UInt8) (c : UInt8) : AF9 Tryz.prog 136 [ts s, by8 c] (fun x => x = i64 (Lib.indexByte s c)) := by
 have h := AF9.ofBelow (f := 136) (args := [.string (str s), .int .u8 c.toNat]) (r := .int .i64 (Lib.indexByte s c)) (fun F w _ => by
  have h1 := Tryz.strings_IndexByte (str s) c.toNat w
  have e2 : ((c.toNat : Int)).toNat.toUInt8 = c := by rw [Int.toNat_natCast]; simp
  rw [Bd4, e2] at h1
  refine h1.mono ?_
  rintro e w' ⟨rfl, rfl⟩
  exact ⟨rfl, AV5 _⟩)
 exact h
theorem A5n (l : List UInt8) (k : Nat) (c : UInt8) (hk : l[k]? = some c) (hc : c.toNat < 128) : (Utf8.decode (str l) k).1 = c.toNat ∧ (Utf8.decode (str l) k).2 = 1 := by
 obtain ⟨hl, rfl⟩ := List.getElem?_eq_some_iff.1 hk
 have h : k < (str l).size := by rw [A0k]; exact hl
 have e : ((str l)[k]'h) = l[k] := rfl
 have := decode_ascii (str l) k h (by rw [e]; exact hc)
 rw [this, e]; exact ⟨rfl, rfl⟩
theorem u8N {n : Nat} (h : n < 256) : (UInt8.ofNat n).toNat = n := by rw [UInt8.toNat_ofNat']; omega
theorem Bhr (r : Nat) (h0 : 128 ≤ r) : ∃ (L : List UInt8) (x : UInt8), Utf8.encode (r : Int) = str (L ++ [x]) ∧ 1 ≤ L.length ∧ L.length ≤ 3 ∧ 128 ≤ x.toNat := by
 have key : ∀ c : Nat, 128 ≤ c → ∃ (L : List UInt8) (x : UInt8), (if c < 0x80 then (⟨#[UInt8.ofNat c]⟩ : ByteArray)
   else if c < 0x800 then ⟨#[UInt8.ofNat (0xC0 + c / 64), UInt8.ofNat (0x80 + c % 64)]⟩
   else if c < 0x10000 then ⟨#[UInt8.ofNat (0xE0 + c / 4096), UInt8.ofNat (0x80 + c / 64 % 64), UInt8.ofNat (0x80 + c % 64)]⟩
   else ⟨#[UInt8.ofNat (0xF0 + c / 262144), UInt8.ofNat (0x80 + c / 4096 % 64), UInt8.ofNat (0x80 + c / 64 % 64), UInt8.ofNat (0x80 + c % 64)]⟩) = str (L ++ [x]) ∧ 1 ≤ L.length ∧ L.length ≤ 3 ∧ 128 ≤ x.toNat := by
  intro c hc
  have hx : 128 ≤ (UInt8.ofNat (0x80 + c % 64)).toNat := by rw [u8N (by omega)]; omega
  rw [if_neg (by omega)]
  by_cases h1 : c < 0x800
  ·rw [if_pos h1]; exact ⟨[_], _, rfl, by simp, by simp, hx⟩
  ·rw [if_neg h1]
   by_cases h2 : c < 0x10000
   ·rw [if_pos h2]; exact ⟨[_, _], _, rfl, by simp, by simp, hx⟩
   ·rw [if_neg h2]; exact ⟨[_, _, _], _, rfl, by simp, by simp, hx⟩
 unfold Utf8.encode
 refine key _ ?_
 split
 ·simpa using h0
 ·decide
theorem A38 {c : UInt8} {l : List UInt8} (h : c ∉ l) : Lib.indexByte l c = -1 := by
 have h1 := Lib.indexByte_ge l c
 have h2 : ¬ 0 ≤ Lib.indexByte l c := fun e => h ((A1D c l).1 e)
 omega
set_option maxRecDepth 100000 in
theorem A1h (m : List UInt8) (hm : ∀ x ∈ m, x.toNat < 128) (hl : m.length ≤ 1000) (r : Nat) (h0 : 128 ≤ r) (h1 : r ≤ 1114111) : AF9 Tryz.prog 157 [ts m, .val (.int .i32 (r : Int))] (fun x => x = i64 (-1)) := by
 refine AFl.toPureV (ATj (by simp) ?_)
 by_cases hr : r = 65533
 ·subst hr
  simp -dsimp (disch := first | assumption | omega) only [↓AFe, AFb, AFd, AFc, eq_self, Nat.reduceLT, Nat.reduceEqDiff, ↓reduceIte, Nat.reduceAdd, reduceCtorEq, ↓AFG]
  rw [AGB]
  refine AIa (fun q e H => ∃ k : Nat, q = m.length - k ∧ k ≤ m.length ∧ e = [(175, .op 0 0 [])] ∧ H = [.sit m k]) m.length ?_ ?_
  ·exact ⟨0, rfl, by omega, rfl, rfl⟩
  ·rintro q e H ⟨k, rfl, hk, rfl, rfl⟩
   by_cases hp : k < m.length
   ·obtain ⟨c, hc⟩ : ∃ c, m[k]? = some c := ⟨_, List.getElem?_eq_getElem hp⟩
    obtain ⟨d1, d2⟩ := A5n m k c hc (hm c (List.mem_of_getElem? hc))
    have hc7 := hm c (List.mem_of_getElem? hc)
    simp -dsimp (disch := first | assumption | omega) only [↓AFe, AFb, AFd, AFc, eq_self, Nat.reduceEqDiff, ↓reduceIte, ↓AFG, d1, d2]
    exact AFW (m.length - (k + 1)) (by omega) (by simp) ⟨k + 1, rfl, by omega, rfl, rfl⟩
   ·simp -dsimp (disch := first | assumption | omega) only [↓AFe, AFb, AFd, AFc, eq_self, Nat.reduceEqDiff, ↓reduceIte, ↓AFG]
 ·simp -dsimp (disch := first | assumption | omega) only [↓AFe, AFb, AFd, AFc, eq_self, Nat.reduceEqDiff, ↓reduceIte, Nat.reduceAdd, reduceCtorEq, ↓AFG]
  refine (A3n r (by omega) (by omega)).calls rfl ?_
  rintro _ rfl
  cases hv : Lib.validRune (r : Int) with
  | false =>
   simp -dsimp (disch := first | assumption | omega) only [↓AFe, AFb, AFd, AFc, eq_self, Nat.reduceEqDiff, ↓reduceIte, reduceCtorEq, ↓AFG]
  | true =>
   obtain ⟨L, x, he, l1, l3, hx⟩ := Bhr r h0
   simp -dsimp (disch := first | assumption | omega) only [↓AFe, AFb, AFd, AFc, eq_self, Nat.reduceEqDiff, ↓reduceIte, reduceCtorEq, ↓AFG, he, AGB]
   refine AIa (fun q e H => e = [(0, ts m), (7, .val (.string (str (L ++ [x])))), (8, i64 (L.length : Int)), (9, i64 (L.length : Int))] ∧ H = []) 0 ⟨rfl, rfl⟩ ?_
   rintro q e H ⟨rfl, rfl⟩
   by_cases h2 : L.length < m.length
   ·obtain ⟨y, hy⟩ : ∃ y, m[L.length]? = some y := ⟨_, List.getElem?_eq_getElem h2⟩
    have hy7 := hm y (List.mem_of_getElem? hy)
    have hyx : ¬ y.toNat = x.toNat := by omega
    have hno : Lib.indexByte (m.drop (L.length + 1)) x = -1 := A38 fun h => by have := hm x (List.mem_of_mem_drop h); omega
    have hgx : (L ++ [x])[L.length]? = some x := by simp
    simp -dsimp (disch := first | assumption | omega) only [↓AFe, AFb, AFd, AFc, eq_self, Nat.reduceEqDiff, ↓reduceIte, reduceCtorEq, ↓AFG, AGB, hy, hyx, hgx]
    refine (A1R (m.drop (L.length + 1)) x).calls rfl ?_
    rintro _ rfl
    rw [hno]
    simp -dsimp (disch := first | assumption | omega) only [↓AFe, AFb, AFd, AFc, eq_self, Nat.reduceEqDiff, ↓reduceIte, reduceCtorEq, ↓AFG]
   ·simp -dsimp (disch := first | assumption | omega) only [↓AFe, AFb, AFd, AFc, eq_self, Nat.reduceEqDiff, ↓reduceIte, reduceCtorEq, ↓AFG, AGB]
theorem A0l (n b0 b1 b2 b3 : Nat) : (2 ≤ (Lib.decodeN n b0 b1 b2 b3).2 → 1 < n ∧ b1 / 64 = 2) ∧ (3 ≤ (Lib.decodeN n b0 b1 b2 b3).2 → 2 < n ∧ b2 / 64 = 2) ∧ (4 ≤ (Lib.decodeN n b0 b1 b2 b3).2 → 3 < n ∧ b3 / 64 = 2) ∧ (Lib.decodeN n b0 b1 b2 b3).2 ≤ 4 := by
 unfold Lib.decodeN
 by_cases h0 : b0 < 128
 ·rw [if_pos h0]; simp
 rw [if_neg h0]
 by_cases h1 : b0 / 32 = 6 ∧ (1 < n ∧ b1 / 64 = 2)
 ·rw [if_pos h1]; obtain ⟨_, h2, h3⟩ := h1; split <;> simp [h2, h3]
 rw [if_neg h1]
 by_cases h4 : b0 / 16 = 14 ∧ (1 < n ∧ b1 / 64 = 2) ∧ (2 < n ∧ b2 / 64 = 2)
 ·rw [if_pos h4]; obtain ⟨_, ⟨h2, h3⟩, h5, h6⟩ := h4; split <;> simp [h2, h3, h5, h6]
 rw [if_neg h4]
 by_cases h7 : b0 / 8 = 30 ∧ (1 < n ∧ b1 / 64 = 2) ∧ (2 < n ∧ b2 / 64 = 2) ∧ (3 < n ∧ b3 / 64 = 2)
 ·rw [if_pos h7]; obtain ⟨_, ⟨h2, h3⟩, ⟨h5, h6⟩, h8, h9⟩ := h7; split <;> simp [h2, h3, h5, h6, h8, h9]
 rw [if_neg h7]; simp
theorem Bhu {l : List UInt8} {i : Nat} (h : i < l.length) : (str l).get! i = l[i] := by
 have h' : i < (str l).size := by rw [A0k]; exact h
 have e : (str l).get! i = (str l)[i]'h' := by
  simp [ByteArray.get!, getElem!_pos, h']
  rfl
 rw [e]; rfl
theorem A0Z {l : List UInt8} {pos j : Nat} (hj : pos < j) (hj2 : j < pos + (Utf8.decode (str l) pos).2) : ∃ c, l[j]? = some c ∧ 128 ≤ c.toNat := by
 rw [Lib.decode_at, A0k] at hj2
 obtain ⟨h1, h2, h3, h4⟩ := A0l (l.length - pos) ((str l).get! pos).toNat ((str l).get! (pos + 1)).toNat ((str l).get! (pos + 2)).toNat ((str l).get! (pos + 3)).toNat
 generalize (Lib.decodeN (l.length - pos) ((str l).get! pos).toNat ((str l).get! (pos + 1)).toNat ((str l).get! (pos + 2)).toNat ((str l).get! (pos + 3)).toNat).2 = k at *
 rcases (by omega : j = pos + 1 ∨ j = pos + 2 ∨ j = pos + 3) with rfl | rfl | rfl
 ·obtain ⟨q1, q2⟩ := h1 (by omega)
  rw [Bhu (by omega)] at q2
  exact ⟨_, List.getElem?_eq_getElem (by omega), by omega⟩
 ·obtain ⟨q1, q2⟩ := h2 (by omega)
  rw [Bhu (by omega)] at q2
  exact ⟨_, List.getElem?_eq_getElem (by omega), by omega⟩
 ·obtain ⟨q1, q2⟩ := h3 (by omega)
  rw [Bhu (by omega)] at q2
  exact ⟨_, List.getElem?_eq_getElem (by omega), by omega⟩
theorem A9a (l : List UInt8) (k : Nat) (c : UInt8) (hk : l[k]? = some c) (hc : 128 ≤ c.toNat) : 128 ≤ (Utf8.decode (str l) k).1 ∧ (Utf8.decode (str l) k).1 ≤ 1114111 ∧ 1 ≤ (Utf8.decode (str l) k).2 := by
 obtain ⟨hl, rfl⟩ := List.getElem?_eq_some_iff.1 hk
 have h : k < (str l).size := by rw [A0k]; exact hl
 have e : ((str l)[k]'h) = l[k] := rfl
 obtain ⟨h1, h2⟩ := decode_high (str l) k h (by rw [e]; exact hc)
 exact ⟨h1, Lib.rune_le _ _, h2⟩
theorem AWw (m : List UInt8) : ∀ l : List UInt8, 0 ≤ Lib.indexAny l m ↔ ∃ x ∈ l, x ∈ m
 | [] => by simp [Lib.indexAny]
 | b :: l => by
  have ih := AWw m l
  have hg := Lib.indexAny_ge m l
  unfold Lib.indexAny
  by_cases hb : b ∈ m
  ·simp [hb]
  ·have hb' : m.contains b = false := by simpa using hb
   rw [if_neg (by rw [hb']; simp)]
   by_cases h : Lib.indexAny l m = -1
   ·rw [h]
    have : ¬ ∃ x ∈ l, x ∈ m := by rw [← ih, h]; omega
    simp [hb, this]
   ·have h' : 0 ≤ Lib.indexAny l m := by omega
    have h2 : (Lib.indexAny l m == -1) = false := by simpa using h
    rw [h2]
    have := ih.1 h'
    simp [hb, this]
    omega
theorem A1j (m : List UInt8) (c : UInt8) (hc : c.toNat < 128) : AF9 Tryz.prog 157 [ts m, .val (.int .i32 ((c.toNat : Nat) : Int))] (fun x => x = i64 (Lib.indexByte m c)) := by
 have h := AF9.ofBelow (f := 157) (args := [.string (str m), .int .i32 c.toNat]) (r := .int .i64 (Lib.indexByte m c)) (fun F w _ => by
  have h1 := Tryz.strings_IndexRune_ascii (str m) c.toNat w (by omega) (by omega)
  have e2 : ((c.toNat : Int)).toNat.toUInt8 = c := by rw [Int.toNat_natCast]; simp
  rw [Bd4, e2] at h1
  refine h1.mono ?_
  rintro e w' ⟨rfl, rfl⟩
  exact ⟨rfl, AV5 _⟩)
 exact h
set_option maxRecDepth 100000 in
theorem A4V (s m : List UInt8) (hs : s.length ≤ 1000) (hm : ∀ x ∈ m, x.toNat < 128) (hl : m.length ≤ 1000) (hl2 : 2 ≤ m.length) : AF9 Tryz.prog 125 [ts s, ts m] (fun x => ∃ i : Int, x = i64 i ∧ (0 ≤ i ↔ ∃ x ∈ s, x ∈ m)) := by
 by_cases h8 : 8 < s.length
 ·have h := AF9.ofBelow (f := 125) (args := [.string (str s), .string (str m)]) (r := .int .i64 (Lib.indexAny s m)) (fun F w _ => by
   have h1 := Tryz.strings_IndexAny_long (by intro w; kernel_rfl) (str s) (str m) w (by rw [A0k]; exact hl2) (by rw [A0k]; exact h8) (by rw [A0k]; omega) (by rw [A0k]; omega) (fun j x hx => by
    rw [Bd4] at hx
    exact hm x (List.mem_of_getElem? hx))
   rw [Bd4, Bd4] at h1
   refine h1.mono ?_
   rintro e w' ⟨rfl, rfl⟩
   exact ⟨rfl, rfl, rfl, rfl, by simp; omega, fun i hi => by rw [AGd _ _ (by simp; omega), AGd _ _ hi]⟩)
  refine AF9.mono (args := [ts s, ts m]) h ?_
  rintro x rfl
  exact ⟨_, rfl, AWw _ _⟩
 ·refine AFl.toPureV (AT4 (by simp) ?_)
  have n1 : ¬ m = [] := by rintro rfl; simp at hl2
  simp -dsimp (disch := first | assumption | omega) only [↓AFe, AFb, AFd, AFc, eq_self, Nat.reduceEqDiff, ↓reduceIte, Nat.reduceAdd, reduceCtorEq, ↓AGc, AGB]
  refine AMR (by simp) ?_
  simp -dsimp (disch := first | assumption | omega) only [↓AFe, AFb, AFd, AFc, eq_self, Nat.reduceEqDiff, ↓reduceIte, reduceCtorEq, ↓ANl, ↓AGc, AGB]
  refine AIa (fun q e H => ∃ pos : Nat, q = s.length - pos ∧ (∀ j x, j < pos → s[j]? = some x → x ∉ m) ∧ e = [(1, ts m), (45, .op 0 0 [])] ∧ H = [.sit s pos]) s.length ?_ ?_
  ·exact ⟨0, rfl, fun j x h => by omega, rfl, rfl⟩
  ·rintro q e H ⟨pos, rfl, hno, rfl, rfl⟩
   by_cases hp : pos < s.length
   ·obtain ⟨c, hc⟩ : ∃ c, s[pos]? = some c := ⟨_, List.getElem?_eq_getElem hp⟩
    by_cases h7 : c.toNat < 128
    ·obtain ⟨d1, d2⟩ := A5n s pos c hc h7
     simp -dsimp (disch := first | assumption | omega) only [↓AFe, AFb, AFd, AFc, eq_self, Nat.reduceEqDiff, ↓reduceIte, ↓AGc, d1, d2]
     refine (A1j m c h7).calls rfl ?_
     rintro _ rfl
     by_cases hcm : c ∈ m
     ·obtain ⟨k, hk⟩ : ∃ k : Nat, Lib.indexByte m c = (k : Int) := by
       have := (A1D c m).2 hcm
       exact ⟨(Lib.indexByte m c).toNat, by omega⟩
      rw [hk]
      simp -dsimp (disch := first | assumption | omega) only [↓AFe, AFb, AFd, AFc, eq_self, Nat.reduceEqDiff, ↓reduceIte, ↓AGc]
      exact ⟨_, rfl, fun _ => ⟨c, List.mem_of_getElem? hc, hcm⟩, fun _ => by omega⟩
     ·have hk : Lib.indexByte m c = -1 := A38 hcm
      rw [hk]
      simp -dsimp (disch := first | assumption | omega) only [↓AFe, AFb, AFd, AFc, eq_self, Nat.reduceEqDiff, ↓reduceIte]
      refine AFW (s.length - (pos + 1)) (by omega) (by simp) ⟨pos + 1, rfl, fun j x hj hx => ?_, rfl, rfl⟩
      by_cases e : j = pos
      ·subst e; rw [hc] at hx; cases hx; exact hcm
      ·exact hno j x (by omega) hx
    ·obtain ⟨d1, d2, d3⟩ := A9a s pos c hc (by omega)
     have hsk : ∀ j, pos < j → j < pos + (Utf8.decode (str s) pos).2 → ∃ c, s[j]? = some c ∧ 128 ≤ c.toNat := fun j h h2 => A0Z h h2
     simp -dsimp (disch := first | assumption | omega) only [↓AFe, AFb, AFd, AFc, eq_self, Nat.reduceEqDiff, ↓reduceIte, ↓AGc]
     generalize (Utf8.decode (str s) pos).1 = r at *
     generalize (Utf8.decode (str s) pos).2 = k at *
     refine (A1h m hm hl r d1 d2).calls rfl ?_
     rintro _ rfl
     simp -dsimp (disch := first | assumption | omega) only [↓AFe, AFb, AFd, AFc, eq_self, Nat.reduceEqDiff, ↓reduceIte]
     have hi2 : ∀ y : UInt8, 128 ≤ y.toNat → y ∉ m := fun y hy hy2 => by
      have := hm y hy2
      omega
     refine AFW (s.length - (pos + k)) (by omega) (by simp) ⟨pos + k, rfl, fun j x hj hx => ?_, rfl, rfl⟩
     by_cases e : j = pos
     ·subst e; rw [hc] at hx; cases hx; exact hi2 _ (by omega)
     ·by_cases h2 : j < pos
      ·exact hno j x h2 hx
      ·obtain ⟨y, hy, hy2⟩ := hsk j (by omega) hj
       rw [hy] at hx; cases hx; exact hi2 _ hy2
   ·simp -dsimp (disch := first | assumption | omega) only [↓AFe, AFb, AFd, AFc, eq_self, Nat.reduceEqDiff, ↓reduceIte, ↓AGc]
    refine ⟨-1, rfl, fun h => by omega, fun ⟨x, hx, hxm⟩ => ?_⟩
    obtain ⟨j, hj, rfl⟩ := List.mem_iff_getElem.1 hx
    exact absurd hxm (hno j _ (by omega) (List.getElem?_eq_getElem hj))
theorem A0S (s m : List UInt8) (hs : s.length ≤ 1000) (hm : ∀ x ∈ m, x.toNat < 128) (hl : m.length ≤ 1000) (hl2 : 2 ≤ m.length) : AF9 Tryz.prog 90 [ts s, ts m] (fun x => x = tb (decide (∃ x ∈ s, x ∈ m))) := by
 refine AFl.toPureV (ARU (by simp) ?_)
 simp -dsimp (disch := first | assumption | omega) only [↓AFe, AFb, AFd, AFc, eq_self, Nat.reduceEqDiff, ↓reduceIte, Nat.reduceAdd, reduceCtorEq, ↓ALN]
 refine (A4V s m hs hm hl hl2).calls rfl ?_
 rintro _ ⟨i, rfl, hi⟩
 have e : (decide (∃ x ∈ s, x ∈ m)) = decide (0 ≤ i) := by simp only [hi]
 rw [e]
 simp -dsimp (disch := first | assumption | omega) only [↓AFe, AFb, AFd, AFc, eq_self, ↓reduceIte, ↓ALN]
 simp
end Go.Proofs.YtliaddbbmnfioaaGreatDoor


namespace Go.Proofs.YtliaddbbmnfioaaGreatDoor
variable [AFq]
set_option linter.unusedSectionVars false
set_option linter.unusedVariables false
set_option linter.defProp false
set_option maxRecDepth 100000

def ALZ : AE9 := .seq (.sdraw 10003 [mv_ 25 4,
  po_ 28 (.fieldA 1 1 (.t 6)),
  po_ 29 (.load false 1 (.t 28)),
  ⟨some 26, .s (.bslice 1 1 (.val (.int .u8 ((0 : Nat) : Int))) [⟨0, .c (.int .u8 ((32 : Nat) : Int))⟩]), none⟩,
  so_ 27 (.app 1 1 5 (.t 25) (.t 26)),
  so_ 30 (.appS 5 (.t 27) (.t 29)),
  mv_ 4 30] [4, 6, 15, 16, 17])
 (.sdraw 10003 [mv_ 31 4,
  po_ 34 (.fieldA 2 2 (.t 6)),
  po_ 35 (.slA 20 1 (.t 34) none none),
  ⟨some 32, .s (.bslice 1 1 (.val (.int .u8 ((0 : Nat) : Int))) [⟨0, .c (.int .u8 ((0 : Nat) : Int))⟩]), none⟩,
  so_ 33 (.app 1 1 5 (.t 31) (.t 32)),
  so_ 36 (.app 1 1 5 (.t 33) (.t 35)),
  mv_ 4 36] [4, 15, 16, 17])
def AL4 : AE9 := .seq (.ops [mv_ 21 4,
  po_ 22 (.fieldA 0 0 (.t 6)),
  po_ 23 (.load false 1 (.t 22)),
  so_ 24 (.call 49 [.t 21, .t 23, .c (.int .i64 ((8 : Nat) : Int))]),
  mv_ 4 24] [4, 6, 15, 16, 17])
 ALZ
def ALO : AE9 := .seq (.block 1 (.seq (.ops [po_ 19 (.idxA 22 (.t 15) (.t 17)),
  po_ 20 (.load true 22 (.t 19)),
  so_ 6 (.alloc (.agg [.val (.int .i64 ((0 : Nat) : Int)), .val (.string (str [])), .arr 20 1 [.val (.int .u8 ((0 : Nat) : Int)), .val (.int .u8 ((0 : Nat) : Int)), .val (.int .u8 ((0 : Nat) : Int)), .val (.int .u8 ((0 : Nat) : Int)), .val (.int .u8 ((0 : Nat) : Int)), .val (.int .u8 ((0 : Nat) : Int)), .val (.int .u8 ((0 : Nat) : Int)), .val (.int .u8 ((0 : Nat) : Int)), .val (.int .u8 ((0 : Nat) : Int)), .val (.int .u8 ((0 : Nat) : Int)), .val (.int .u8 ((0 : Nat) : Int)), .val (.int .u8 ((0 : Nat) : Int)), .val (.int .u8 ((0 : Nat) : Int)), .val (.int .u8 ((0 : Nat) : Int)), .val (.int .u8 ((0 : Nat) : Int)), .val (.int .u8 ((0 : Nat) : Int)), .val (.int .u8 ((0 : Nat) : Int)), .val (.int .u8 ((0 : Nat) : Int)), .val (.int .u8 ((0 : Nat) : Int)), .val (.int .u8 ((0 : Nat) : Int))]])),
  ⟨none, .s (.store 22 (.t 6) (.t 20)), none⟩] [4, 6, 15, 16, 17])
 AL4))
 (.ops [po_ 37 (.bin 3 .add (.t 17) (ci_ 1)),
  mv_ 17 37] [4, 15, 16, 17])
def ALR : AE9 := .seq (.cond (.t 18)
 (.skip)
 (.exit 0))
 ALO
def AL3 : AE9 := .seq (.ops [po_ 18 (.bin 3 .lss (.t 17) (.t 16))] [4, 15, 16, 17, 18])
 ALR
def ALG : AE9 := .block 0 (.own 4 1 (.loop [4, 15, 16, 17] AL3))
def ALv : AE9 := .seq (.ops [mv_ 38 4,
  mv_ 2 38,
  po_ 3 (.mov (.c .nilIface))] [2, 3])
 (.ret)
def ALT : AE9 := .seq (.seq (.ops [mv_ 15 0,
  po_ 16 (.lenV (.t 15)),
  po_ 17 (.mov (ci_ 0))] [4, 15, 16, 17])
 ALG)
 ALv
def AH2 : AE9 := .seq (.ops [po_ 4 (.mov (.c (.slice none 0 0)))] [0, 4])
 ALT
def AKI : AE9 := .own 0 22 (.seq (.ops [mv_ 13 0,
  so_ 14 (.call 47 [.t 13, .c (.func (.func 48) #[] #[])])] [0])
 AH2)
def AKi : AE9 := .seq (.ops [mv_ 11 0,
  so_ 12 (.call 46 [.t 11]),
  mv_ 0 12] [0])
 AKI
def AKC : AE9 := .seq (.seq (.ops [mv_ 7 0,
  so_ 8 (.call 45 [.t 7]),
  po_ 9 (.un .not (.t 8))] [0, 9])
 (.cond (.t 9)
 (.seq (.ops [po_ 10 (.iface 34 (ci_ 21)),
   po_ 2 (.mov (.c (.slice none 0 0))),
   mv_ 3 10] [2, 3])
  (.ret))
 (.skip)))
 AKi
def AN9 : AE9 := .seq (.ops [po_ 2 (.mov (.c (.slice none 0 0))),
  po_ 3 (.mov (.c .nilIface))] [0])
 AKC
def AJ0 : List VR := [.tmp 2, .tmp 3]
theorem AVA : Tryz.f17.body.bind (trC Tryz.prog Tryz.f17.ntmps) = some (er AN9) := by kernel_rfl
theorem AVy : trR Tryz.prog Tryz.f17.results.toList = some AJ0 := by kernel_rfl
def AQ0 := AE8 ALZ.eq_1
def AQU := AE8 AL4.eq_1
def AQE := AE8 ALO.eq_1
def AJ7 := AE8 ALR.eq_1
def AJC := AE8 AL3.eq_1
def AQJ := AE8 ALG.eq_1
def AQY := AE8 ALv.eq_1
def AQ8 := AE8 ALT.eq_1
def AQK := AE8 AH2.eq_1
def AID := AE8 AKI.eq_1
def APV := AE8 AKi.eq_1
def APA := AE8 AKC.eq_1
def ATp := AE8 AN9.eq_1
theorem AMH {K : TV → Prop} {e : Env} {H : List Ob} : res AJ0 e H K = res [.tmp 2, .tmp 3] e H K := AE7 rfl
def AUn := AH5 39 Tryz.func17 AVA AVy rfl

def AML : AE9 := .seq (.draw 8 [mv_ 69 13,
  po_ 70 (.bin 3 .gtr (.t 69) (ci_ 0)),
  mv_ 71 70,
  ⟨some 72, .p (.mov (.t 4)), some ⟨71, true⟩⟩,
  ⟨some 73, .p (.mov (.t 13)), some ⟨71, true⟩⟩,
  ⟨some 74, .p (.bin 3 .sub (.t 73) (ci_ 1)), some ⟨71, true⟩⟩,
  ⟨some 75, .p (.idxA 22 (.t 72) (.t 74)), some ⟨71, true⟩⟩,
  ⟨some 76, .p (.load true 22 (.t 75)), some ⟨71, true⟩⟩,
  ⟨some 77, .p (.load true 22 (.t 12)), some ⟨71, true⟩⟩,
  ⟨some 78, .s (.call 48 [.t 76, .t 77]), some ⟨71, true⟩⟩,
  ⟨some 79, .p (.bin 3 .geq (.t 78) (ci_ 0)), some ⟨71, true⟩⟩,
  po_ 80 (.pick (.t 71) (.t 79) (.c (.bool false)))] [4, 6, 12, 80])
 (.cond (.t 80)
 (.seq (.ops [po_ 81 (.iface 34 (ci_ 21)),
   po_ 2 (.mov (.c (.slice none 0 0))),
   mv_ 3 81] [2, 3])
  (.ret))
 (.skip))
def AMP : AE9 := .seq (.seq (.ops [mv_ 67 4,
  po_ 68 (.lenV (.t 67)),
  mv_ 13 68] [4, 6, 12, 13])
 AML)
 (.seq (.ops [mv_ 82 4,
  po_ 83 (.load true 22 (.t 12)),
  ⟨some 84, .s (.bslice 22 1 (.agg [.val (.int .i64 ((0 : Nat) : Int)), .val (.string (str [])), .arr 20 1 [.val (.int .u8 ((0 : Nat) : Int)), .val (.int .u8 ((0 : Nat) : Int)), .val (.int .u8 ((0 : Nat) : Int)), .val (.int .u8 ((0 : Nat) : Int)), .val (.int .u8 ((0 : Nat) : Int)), .val (.int .u8 ((0 : Nat) : Int)), .val (.int .u8 ((0 : Nat) : Int)), .val (.int .u8 ((0 : Nat) : Int)), .val (.int .u8 ((0 : Nat) : Int)), .val (.int .u8 ((0 : Nat) : Int)), .val (.int .u8 ((0 : Nat) : Int)), .val (.int .u8 ((0 : Nat) : Int)), .val (.int .u8 ((0 : Nat) : Int)), .val (.int .u8 ((0 : Nat) : Int)), .val (.int .u8 ((0 : Nat) : Int)), .val (.int .u8 ((0 : Nat) : Int)), .val (.int .u8 ((0 : Nat) : Int)), .val (.int .u8 ((0 : Nat) : Int)), .val (.int .u8 ((0 : Nat) : Int)), .val (.int .u8 ((0 : Nat) : Int))]]) [⟨0, .t 83⟩]), none⟩,
  so_ 85 (.app 22 48 60 (.t 82) (.t 84)),
  mv_ 4 85] [4, 6])
 (.ops [mv_ 86 6,
  po_ 87 (.slV 1 (.t 86) (some (ci_ 20)) none),
  mv_ 0 87] [0, 4]))
def AMw : AE9 := .seq (.draw 4 [mv_ 59 10,
  po_ 60 (.conv .i64 (.t 59)),
  mv_ 61 8,
  po_ 62 (.b2s (.t 61)),
  mv_ 63 6,
  po_ 64 (.gen (.s2a 20 1) [.t 63]),
  po_ 65 (.load true 20 (.t 64)),
  ⟨some 66, .p (.build [.val (.int .i64 ((0 : Nat) : Int)), .val (.string (str [])), .arr 20 1 [.val (.int .u8 ((0 : Nat) : Int)), .val (.int .u8 ((0 : Nat) : Int)), .val (.int .u8 ((0 : Nat) : Int)), .val (.int .u8 ((0 : Nat) : Int)), .val (.int .u8 ((0 : Nat) : Int)), .val (.int .u8 ((0 : Nat) : Int)), .val (.int .u8 ((0 : Nat) : Int)), .val (.int .u8 ((0 : Nat) : Int)), .val (.int .u8 ((0 : Nat) : Int)), .val (.int .u8 ((0 : Nat) : Int)), .val (.int .u8 ((0 : Nat) : Int)), .val (.int .u8 ((0 : Nat) : Int)), .val (.int .u8 ((0 : Nat) : Int)), .val (.int .u8 ((0 : Nat) : Int)), .val (.int .u8 ((0 : Nat) : Int)), .val (.int .u8 ((0 : Nat) : Int)), .val (.int .u8 ((0 : Nat) : Int)), .val (.int .u8 ((0 : Nat) : Int)), .val (.int .u8 ((0 : Nat) : Int)), .val (.int .u8 ((0 : Nat) : Int))]] [1, 1, 20] [⟨0, .t 60⟩, ⟨1, .t 62⟩, ⟨2, .t 65⟩]), none⟩,
  so_ 12 (.alloc (.agg [.val (.int .i64 ((0 : Nat) : Int)), .val (.string (str [])), .arr 20 1 [.val (.int .u8 ((0 : Nat) : Int)), .val (.int .u8 ((0 : Nat) : Int)), .val (.int .u8 ((0 : Nat) : Int)), .val (.int .u8 ((0 : Nat) : Int)), .val (.int .u8 ((0 : Nat) : Int)), .val (.int .u8 ((0 : Nat) : Int)), .val (.int .u8 ((0 : Nat) : Int)), .val (.int .u8 ((0 : Nat) : Int)), .val (.int .u8 ((0 : Nat) : Int)), .val (.int .u8 ((0 : Nat) : Int)), .val (.int .u8 ((0 : Nat) : Int)), .val (.int .u8 ((0 : Nat) : Int)), .val (.int .u8 ((0 : Nat) : Int)), .val (.int .u8 ((0 : Nat) : Int)), .val (.int .u8 ((0 : Nat) : Int)), .val (.int .u8 ((0 : Nat) : Int)), .val (.int .u8 ((0 : Nat) : Int)), .val (.int .u8 ((0 : Nat) : Int)), .val (.int .u8 ((0 : Nat) : Int)), .val (.int .u8 ((0 : Nat) : Int))]])),
  ⟨none, .s (.store 22 (.t 12) (.t 66)), none⟩] [4, 6, 12])
 AMP
def AMG : AE9 := .seq (.seq (.ops [mv_ 37 7,
  po_ 38 (.un .not (.t 37)),
  mv_ 39 38,
  ⟨some 40, .p (.mov (.t 9)), some ⟨39, false⟩⟩,
  ⟨some 41, .p (.un .not (.t 40)), some ⟨39, false⟩⟩,
  po_ 42 (.pick (.t 39) (.c (.bool true)) (.t 41)),
  mv_ 43 42,
  ⟨some 44, .p (.mov (.t 11)), some ⟨43, false⟩⟩,
  ⟨some 45, .p (.eqN 1 (.t 44) (.c .nilIface) true), some ⟨43, false⟩⟩,
  po_ 46 (.pick (.t 43) (.c (.bool true)) (.t 45)),
  mv_ 47 46,
  ⟨some 48, .p (.mov (.t 5)), some ⟨47, false⟩⟩,
  ⟨some 49, .p (.idxA 1 (.t 48) (ci_ 0)), some ⟨47, false⟩⟩,
  ⟨some 50, .p (.load false 1 (.t 49)), some ⟨47, false⟩⟩,
  ⟨some 51, .p (.bin 5 .eql (.t 50) (.c (.int .u8 ((48 : Nat) : Int)))), some ⟨47, false⟩⟩,
  po_ 52 (.pick (.t 47) (.c (.bool true)) (.t 51)),
  mv_ 53 52,
  ⟨some 54, .p (.mov (.t 6)), some ⟨53, false⟩⟩,
  ⟨some 55, .p (.lenV (.t 54)), some ⟨53, false⟩⟩,
  ⟨some 56, .p (.bin 3 .lss (.t 55) (ci_ 20)), some ⟨53, false⟩⟩,
  po_ 57 (.pick (.t 53) (.c (.bool true)) (.t 56))] [4, 6, 8, 10, 57])
 (.cond (.t 57)
 (.seq (.ops [po_ 58 (.iface 34 (ci_ 21)),
   po_ 2 (.mov (.c (.slice none 0 0))),
   mv_ 3 58] [2, 3])
  (.ret))
 (.skip)))
 AMw
def AMC : AE9 := .seq (.ops [mv_ 32 5,
  po_ 33 (.b2s (.t 32)),
  so_ 34 (.call 89 [.t 33, .c (.int .i64 ((8 : Nat) : Int)), .c (.int .i64 ((20 : Nat) : Int))]),
  mv_ 31 34,
  po_ 35 (.ext 0 (.t 31)),
  po_ 36 (.ext 1 (.t 31)),
  mv_ 10 35,
  mv_ 11 36] [4, 5, 6, 7, 8, 9, 10, 11])
 AMG
def AMx : AE9 := .seq (.opsZ [mv_ 25 6,
  ⟨some 26, .s (.bslice 1 1 (.val (.int .u8 ((0 : Nat) : Int))) [⟨0, .c (.int .u8 ((0 : Nat) : Int))⟩]), none⟩] [26] [so_ 27 (.call 88 [.t 25, .t 26]),
  mv_ 24 27,
  po_ 28 (.ext 0 (.t 24)),
  po_ 29 (.ext 1 (.t 24)),
  po_ 30 (.ext 2 (.t 24)),
  mv_ 8 28,
  mv_ 6 29,
  mv_ 9 30] [4, 5, 6, 7, 8, 9])
 AMC
def AMp : AE9 := .block 1 (.seq (.opsZ [mv_ 18 0,
  ⟨some 19, .s (.bslice 1 1 (.val (.int .u8 ((0 : Nat) : Int))) [⟨0, .c (.int .u8 ((32 : Nat) : Int))⟩]), none⟩] [19] [so_ 20 (.call 88 [.t 18, .t 19]),
  mv_ 17 20,
  po_ 21 (.ext 0 (.t 17)),
  po_ 22 (.ext 1 (.t 17)),
  po_ 23 (.ext 2 (.t 17)),
  mv_ 5 21,
  mv_ 6 22,
  mv_ 7 23] [4, 5, 6, 7])
 AMx)
def AMK : AE9 := .seq (.seq (.ops [mv_ 14 0,
  po_ 15 (.lenV (.t 14)),
  po_ 16 (.bin 3 .gtr (.t 15) (ci_ 0))] [0, 4, 16])
 (.cond (.t 16)
 (.skip)
 (.exit 0)))
 AMp
def AMk : AE9 := .seq (.seq (.ops [mv_ 88 4,
  so_ 89 (.call 45 [.t 88]),
  po_ 90 (.un .not (.t 89))] [4, 90])
 (.cond (.t 90)
 (.seq (.ops [po_ 91 (.iface 34 (ci_ 21)),
   po_ 2 (.mov (.c (.slice none 0 0))),
   mv_ 3 91] [2, 3])
  (.ret))
 (.skip)))
 (.seq (.ops [mv_ 92 4,
  mv_ 2 92,
  po_ 3 (.mov (.c .nilIface))] [2, 3])
 (.ret))
def ALI : AE9 := .seq (.block 0 (.own 4 22 (.loop [0, 4] AMK)))
 AMk
def AL1 : AE9 := .seq (.ops [po_ 4 (.mov (.c (.slice none 0 0)))] [0, 4])
 ALI
def APe : AE9 := .seq (.ops [po_ 2 (.mov (.c (.slice none 0 0))),
  po_ 3 (.mov (.c .nilIface))] [0])
 AL1
def AQn : List VR := [.tmp 2, .tmp 3]
theorem AWc : Tryz.f53.body.bind (trC Tryz.prog Tryz.f53.ntmps) = some (er APe) := by kernel_rfl
theorem AV2 : trR Tryz.prog Tryz.f53.results.toList = some AQn := by kernel_rfl
def AKr := AE8 AML.eq_1
def AKJ := AE8 AMP.eq_1
def AR0 := AE8 AMw.eq_1
def AFD := AE8 AMG.eq_1
def AHQ := AE8 AMC.eq_1
def AKL := AE8 AMx.eq_1
def ARY := AE8 AMp.eq_1
def AKu := AE8 AMK.eq_1
def ART := AE8 AMk.eq_1
def AQS := AE8 ALI.eq_1
def AQP := AE8 AL1.eq_1
def AUj := AE8 APe.eq_1
theorem AFB {K : TV → Prop} {e : Env} {H : List Ob} : res AQn e H K = res [.tmp 2, .tmp 3] e H K := AE7 rfl
def AU5 := AH5 93 Tryz.func53 AWc AV2 rfl

def APC : AE9 := .seq (.ops [po_ 20 (.fieldA 0 0 (.t 5)),
  po_ 21 (.load false 1 (.t 20)),
  so_ 22 (.call 80 [.t 21]),
  po_ 23 (.un .not (.t 22)),
  mv_ 24 23,
  ⟨some 25, .p (.fieldA 1 1 (.t 5)), some ⟨24, false⟩⟩,
  ⟨some 26, .p (.load false 1 (.t 25)), some ⟨24, false⟩⟩,
  ⟨some 27, .s (.call 81 [.t 26]), some ⟨24, false⟩⟩,
  ⟨some 28, .p (.un .not (.t 27)), some ⟨24, false⟩⟩,
  po_ 29 (.pick (.t 24) (.c (.bool true)) (.t 28)),
  mv_ 30 29,
  ⟨some 31, .p (.mov (.t 3)), some ⟨30, false⟩⟩,
  ⟨some 32, .p (.fieldA 1 1 (.t 5)), some ⟨30, false⟩⟩,
  ⟨some 33, .p (.load false 1 (.t 32)), some ⟨30, false⟩⟩,
  ⟨some 34, .p (.gen (.look .str (.val (.int .i64 ((0 : Nat) : Int))) false) [.t 31, .t 33]), some ⟨30, false⟩⟩,
  ⟨some 35, .p (.bin 3 .gtr (.t 34) (ci_ 1)), some ⟨30, false⟩⟩,
  po_ 36 (.pick (.t 30) (.c (.bool true)) (.t 35))] [0, 3, 9, 10, 11, 36])
 (.cond (.t 36)
 (.seq (.ops [po_ 2 (.mov (.c (.bool false)))] [2])
  (.ret))
 (.skip))
def AP2 : AE9 := .seq (.ops [mv_ 15 3,
  po_ 16 (.fieldA 1 1 (.t 5)),
  po_ 17 (.load false 1 (.t 16)),
  po_ 18 (.gen (.look .str (.val (.int .i64 ((0 : Nat) : Int))) false) [.t 15, .t 17]),
  po_ 19 (.bin 3 .add (.t 18) (ci_ 1)),
  ⟨none, .s (.mupd .str (.t 15) (.t 17) (.t 19)), none⟩] [0, 3, 5, 9, 10, 11])
 APC
def AQx : AE9 := .seq (.block 1 (.seq (.ops [po_ 13 (.idxA 22 (.t 9) (.t 11)),
  po_ 14 (.load true 22 (.t 13)),
  so_ 5 (.alloc (.agg [.val (.int .i64 ((0 : Nat) : Int)), .val (.string (str [])), .arr 20 1 [.val (.int .u8 ((0 : Nat) : Int)), .val (.int .u8 ((0 : Nat) : Int)), .val (.int .u8 ((0 : Nat) : Int)), .val (.int .u8 ((0 : Nat) : Int)), .val (.int .u8 ((0 : Nat) : Int)), .val (.int .u8 ((0 : Nat) : Int)), .val (.int .u8 ((0 : Nat) : Int)), .val (.int .u8 ((0 : Nat) : Int)), .val (.int .u8 ((0 : Nat) : Int)), .val (.int .u8 ((0 : Nat) : Int)), .val (.int .u8 ((0 : Nat) : Int)), .val (.int .u8 ((0 : Nat) : Int)), .val (.int .u8 ((0 : Nat) : Int)), .val (.int .u8 ((0 : Nat) : Int)), .val (.int .u8 ((0 : Nat) : Int)), .val (.int .u8 ((0 : Nat) : Int)), .val (.int .u8 ((0 : Nat) : Int)), .val (.int .u8 ((0 : Nat) : Int)), .val (.int .u8 ((0 : Nat) : Int)), .val (.int .u8 ((0 : Nat) : Int))]])),
  ⟨none, .s (.store 22 (.t 5) (.t 14)), none⟩] [0, 3, 5, 9, 10, 11])
 AP2))
 (.ops [po_ 37 (.bin 3 .add (.t 11) (ci_ 1)),
  mv_ 11 37] [0, 3, 9, 10, 11])
def AQl : AE9 := .seq (.cond (.t 12)
 (.skip)
 (.exit 0))
 AQx
def AQw : AE9 := .seq (.ops [po_ 12 (.bin 3 .lss (.t 11) (.t 10))] [0, 3, 9, 10, 11, 12])
 AQl
def APi : AE9 := .block 0 (.loop [0, 3, 9, 10, 11] AQw)
def APx : AE9 := .seq (.ops [mv_ 38 0,
  po_ 39 (.lenV (.t 38)),
  po_ 40 (.bin 3 .leq (.t 39) (ci_ 2000)),
  mv_ 2 40] [2])
 (.ret)
def APM : AE9 := .seq (.seq (.ops [mv_ 9 0,
  po_ 10 (.lenV (.t 9)),
  po_ 11 (.mov (ci_ 0))] [0, 3, 9, 10, 11])
 APi)
 APx
def AQB : AE9 := .seq (.ops [mv_ 6 0,
  po_ 7 (.lenV (.t 6)),
  so_ 8 (.mkm .str (some (.t 7))),
  mv_ 3 8] [0, 3])
 APM
def ATI : AE9 := .seq (.ops [po_ 2 (.mov (.c (.bool false)))] [0])
 AQB
def ATC : List VR := [.tmp 2]
theorem AYk : Tryz.f45.body.bind (trC Tryz.prog Tryz.f45.ntmps) = some (er ATI) := by kernel_rfl
theorem AX6 : trR Tryz.prog Tryz.f45.results.toList = some ATC := by kernel_rfl
def AUe := AE8 APC.eq_1
def AT7 := AE8 AP2.eq_1
def AT3 := AE8 AQx.eq_1
def ANR := AE8 AQl.eq_1
def AM4 := AE8 AQw.eq_1
def AUI := AE8 APi.eq_1
def AUT := AE8 APx.eq_1
def AT8 := AE8 APM.eq_1
def AUa := AE8 AQB.eq_1
def AXa := AE8 ATI.eq_1
theorem AIk {K : TV → Prop} {e : Env} {H : List Ob} : res ATC e H K = res [.tmp 2] e H K := AE7 rfl
def AXE := AH5 41 Tryz.func45 AYk AX6 rfl

def AOe : AE9 := .seq (.ops [mv_ 3 0,
  po_ 4 (.bin 58 .eql (.t 3) (ci_ 16384)),
  mv_ 5 4,
  ⟨some 6, .p (.mov (.t 0)), some ⟨5, false⟩⟩,
  ⟨some 7, .p (.bin 58 .eql (.t 6) (ci_ 33188)), some ⟨5, false⟩⟩,
  po_ 8 (.pick (.t 5) (.c (.bool true)) (.t 7)),
  mv_ 9 8,
  ⟨some 10, .p (.mov (.t 0)), some ⟨9, false⟩⟩,
  ⟨some 11, .p (.bin 58 .eql (.t 10) (ci_ 33261)), some ⟨9, false⟩⟩,
  po_ 12 (.pick (.t 9) (.c (.bool true)) (.t 11)),
  mv_ 13 12,
  ⟨some 14, .p (.mov (.t 0)), some ⟨13, false⟩⟩,
  ⟨some 15, .p (.bin 58 .eql (.t 14) (ci_ 40960)), some ⟨13, false⟩⟩,
  po_ 16 (.pick (.t 13) (.c (.bool true)) (.t 15)),
  mv_ 2 16] [2])
 (.ret)
def ASE : AE9 := .seq (.ops [po_ 2 (.mov (.c (.bool false)))] [0])
 AOe
def ASi : List VR := [.tmp 2]
theorem AXZ : Tryz.f80.body.bind (trC Tryz.prog Tryz.f80.ntmps) = some (er ASE) := by kernel_rfl
theorem AXw : trR Tryz.prog Tryz.f80.results.toList = some ASi := by kernel_rfl
def AGe := AE8 AOe.eq_1
def AHv := AE8 ASE.eq_1
theorem AHp {K : TV → Prop} {e : Env} {H : List Ob} : res ASi e H K = res [.tmp 2] e H K := AE7 rfl
def AW4 := AH5 17 Tryz.func80 AXZ AXw rfl



def ANq : AE9 := .seq (.block 3 (.seq (.draw 5 [mv_ 41 0,
  mv_ 42 6,
  po_ 43 (.idxA 22 (.t 41) (.t 42)),
  po_ 44 (.fieldA 1 1 (.t 43)),
  po_ 45 (.load false 1 (.t 44)),
  mv_ 46 0,
  mv_ 47 4,
  po_ 48 (.idxA 22 (.t 46) (.t 47)),
  po_ 49 (.fieldA 1 1 (.t 48)),
  po_ 50 (.load false 1 (.t 49)),
  po_ 51 (.bin 9 .eql (.t 45) (.t 50))] [0, 4, 6, 51])
 (.cond (.t 51)
 (.seq (.ops [po_ 2 (.mov (.c (.slice none 0 0))),
   po_ 3 (.mov (ci_ 21))] [2, 3])
  (.ret))
 (.skip))))
 (.ops [mv_ 39 6,
  po_ 40 (.bin 3 .add (.t 39) (ci_ 1)),
  mv_ 6 40] [0, 4, 6])
def ANE : AE9 := .seq (.seq (.ops [mv_ 36 6,
  mv_ 37 4,
  po_ 38 (.bin 3 .lss (.t 36) (.t 37))] [0, 4, 6, 38])
 (.cond (.t 38)
 (.skip)
 (.exit 2)))
 ANq
def ANK : AE9 := .block 2 (.loop [0, 4, 6] ANE)
def ANH : AE9 := .seq (.ops [po_ 6 (.mov (ci_ 0))] [0, 4, 6])
 ANK
def ANf : AE9 := .seq (.seq (.ops [mv_ 25 5,
  po_ 26 (.un .not (.t 25)),
  mv_ 27 26,
  ⟨some 28, .p (.mov (.t 0)), some ⟨27, false⟩⟩,
  ⟨some 29, .p (.mov (.t 4)), some ⟨27, false⟩⟩,
  ⟨some 30, .p (.idxA 22 (.t 28) (.t 29)), some ⟨27, false⟩⟩,
  ⟨some 31, .p (.fieldA 0 0 (.t 30)), some ⟨27, false⟩⟩,
  ⟨some 32, .p (.load false 1 (.t 31)), some ⟨27, false⟩⟩,
  ⟨some 33, .s (.call 51 [.t 32]), some ⟨27, false⟩⟩,
  ⟨some 34, .p (.bin 9 .eql (.t 33) (.c (.string (str [])))), some ⟨27, false⟩⟩,
  po_ 35 (.pick (.t 27) (.c (.bool true)) (.t 34))] [0, 4, 35])
 (.cond (.t 35)
 (.seq (.ops [po_ 2 (.mov (.c (.slice none 0 0))),
   po_ 3 (.mov (ci_ 21))] [2, 3])
  (.ret))
 (.skip)))
 ANH
def ANy : AE9 := .ops [mv_ 17 4,
  po_ 18 (.bin 3 .add (.t 17) (ci_ 1)),
  mv_ 4 18] [0, 4]
def ANt : AE9 := .seq (.block 1 (.seq (.ops [mv_ 19 0,
  mv_ 20 4,
  po_ 21 (.idxA 22 (.t 19) (.t 20)),
  po_ 22 (.fieldA 1 1 (.t 21)),
  po_ 23 (.load false 1 (.t 22)),
  so_ 24 (.call 50 [.t 23]),
  mv_ 5 24] [0, 4, 5])
 ANf))
 ANy
def ANC : AE9 := .seq (.seq (.ops [mv_ 13 4,
  mv_ 14 0,
  po_ 15 (.lenV (.t 14)),
  po_ 16 (.bin 3 .lss (.t 13) (.t 15))] [0, 4, 16])
 (.cond (.t 16)
 (.skip)
 (.exit 0)))
 ANt
def ANo : AE9 := .block 0 (.loop [0, 4] ANC)
def AMF : AE9 := .seq (.ops [mv_ 71 7,
  mv_ 72 8,
  mv_ 73 9,
  po_ 74 (.idxA 22 (.t 72) (.t 73)),
  po_ 75 (.fieldA 1 1 (.t 74)),
  po_ 76 (.load false 1 (.t 75)),
  so_ 77 (.appS 5 (.t 71) (.t 76)),
  mv_ 7 77] [7, 8, 9])
 (.seq (.ops [mv_ 78 7,
  ⟨some 79, .s (.bslice 1 1 (.val (.int .u8 ((0 : Nat) : Int))) [⟨0, .c (.int .u8 ((0 : Nat) : Int))⟩]), none⟩,
  so_ 80 (.app 1 1 5 (.t 78) (.t 79)),
  mv_ 7 80] [7, 8, 9])
 (.ops [mv_ 81 7,
  mv_ 82 8,
  mv_ 83 9,
  po_ 84 (.idxA 22 (.t 82) (.t 83)),
  po_ 85 (.fieldA 2 2 (.t 84)),
  po_ 86 (.slA 20 1 (.t 85) none none),
  so_ 87 (.app 1 1 5 (.t 81) (.t 86)),
  mv_ 7 87] [7, 8, 9]))
def AME : AE9 := .seq (.ops [mv_ 68 7,
  ⟨some 69, .s (.bslice 1 1 (.val (.int .u8 ((0 : Nat) : Int))) [⟨0, .c (.int .u8 ((32 : Nat) : Int))⟩]), none⟩,
  so_ 70 (.app 1 1 5 (.t 68) (.t 69)),
  mv_ 7 70] [7, 8, 9])
 AMF
def AMO : AE9 := .seq (.block 5 (.seq (.ops [mv_ 60 7,
  mv_ 61 8,
  mv_ 62 9,
  po_ 63 (.idxA 22 (.t 61) (.t 62)),
  po_ 64 (.fieldA 0 0 (.t 63)),
  po_ 65 (.load false 1 (.t 64)),
  so_ 66 (.call 51 [.t 65]),
  so_ 67 (.appS 5 (.t 60) (.t 66)),
  mv_ 7 67] [7, 8, 9])
 AME))
 (.ops [mv_ 58 9,
  po_ 59 (.bin 3 .add (.t 58) (ci_ 1)),
  mv_ 9 59] [7, 8, 9])
def AMD : AE9 := .seq (.seq (.ops [mv_ 54 9,
  mv_ 55 8,
  po_ 56 (.lenV (.t 55)),
  po_ 57 (.bin 3 .lss (.t 54) (.t 56))] [7, 8, 9, 57])
 (.cond (.t 57)
 (.skip)
 (.exit 4)))
 AMO
def AMr : AE9 := .block 4 (.own 7 1 (.loop [7, 8, 9] AMD))
def AMs : AE9 := .seq (.ops [mv_ 88 7,
  mv_ 2 88,
  po_ 3 (.mov (ci_ 0))] [2, 3])
 (.ret)
def AMm : AE9 := .seq (.seq (.ops [po_ 9 (.mov (ci_ 0))] [7, 8, 9])
 AMr)
 AMs
def AMu : AE9 := .seq (.ops [mv_ 52 0,
  so_ 53 (.call 52 [.t 52]),
  mv_ 8 53] [7, 8])
 AMm
def AMn : AE9 := .seq (.ops [po_ 7 (.mov (.c (.slice none 0 0)))] [0, 7])
 AMu
def AMN : AE9 := .seq (.seq (.ops [po_ 4 (.mov (ci_ 0))] [0, 4])
 ANo)
 AMn
def AMM : AE9 := .seq (.seq (.ops [mv_ 10 0,
  po_ 11 (.lenV (.t 10)),
  po_ 12 (.bin 3 .gtr (.t 11) (ci_ 2000))] [0, 12])
 (.cond (.t 12)
 (.seq (.ops [po_ 2 (.mov (.c (.slice none 0 0))),
   po_ 3 (.mov (ci_ 21))] [2, 3])
  (.ret))
 (.skip)))
 AMN
def ARq : AE9 := .seq (.ops [po_ 2 (.mov (.c (.slice none 0 0))),
  po_ 3 (.mov (ci_ 0))] [0])
 AMM
def ARu : List VR := [.tmp 2, .tmp 3]
theorem AWK : Tryz.f19.body.bind (trC Tryz.prog Tryz.f19.ntmps) = some (er ARq) := by kernel_rfl
theorem AWQ : trR Tryz.prog Tryz.f19.results.toList = some ARu := by kernel_rfl
def ALl := AE8 ANq.eq_1
def AH1 := AE8 ANE.eq_1
def AR6 := AE8 ANK.eq_1
def ASr := AE8 ANH.eq_1
def ALq := AE8 ANf.eq_1
def ASn := AE8 ANy.eq_1
def ASY := AE8 ANt.eq_1
def ALC := AE8 ANC.eq_1
def ASX := AE8 ANo.eq_1
def AR1 := AE8 AMF.eq_1
def ARQ := AE8 AME.eq_1
def ARP := AE8 AMO.eq_1
def AKH := AE8 AMD.eq_1
def ARZ := AE8 AMr.eq_1
def AR4 := AE8 AMs.eq_1
def ARW := AE8 AMm.eq_1
def AR2 := AE8 AMu.eq_1
def ARS := AE8 AMn.eq_1
def ARX := AE8 AMN.eq_1
def AKS := AE8 AMM.eq_1
def AOd := AE8 ARq.eq_1
theorem AGt {K : TV → Prop} {e : Env} {H : List Ob} : res ARu e H K = res [.tmp 2, .tmp 3] e H K := AE7 rfl
def AV7 := AH5 89 Tryz.func19 AWK AWQ rfl

def AOr : AE9 := .seq (.draw 3 [po_ 42 (.fieldA 0 0 (.t 6)),
  po_ 43 (.load false 1 (.t 42)),
  po_ 44 (.bin 3 .mul (.t 43) (ci_ 8)),
  mv_ 45 0,
  mv_ 46 5,
  po_ 47 (.idxA 1 (.t 45) (.t 46)),
  po_ 48 (.load false 1 (.t 47)),
  po_ 49 (.bin 5 .sub (.t 48) (.c (.int .u8 ((48 : Nat) : Int)))),
  po_ 50 (.conv .i64 (.t 49)),
  po_ 51 (.bin 3 .add (.t 44) (.t 50)),
  po_ 52 (.fieldA 0 0 (.t 6)),
  ⟨none, .s (.store 1 (.t 52) (.t 51)), none⟩] [0, 4, 5, 6])
 (.ops [mv_ 53 5,
  po_ 54 (.bin 3 .add (.t 53) (ci_ 1)),
  mv_ 5 54] [0, 4, 5, 6])
def AOq : AE9 := .block 3 (.seq (.seq (.ops [mv_ 25 0,
  mv_ 26 5,
  po_ 27 (.idxA 1 (.t 25) (.t 26)),
  po_ 28 (.load false 1 (.t 27)),
  po_ 29 (.bin 5 .lss (.t 28) (.c (.int .u8 ((48 : Nat) : Int)))),
  mv_ 30 29,
  ⟨some 31, .p (.mov (.t 0)), some ⟨30, false⟩⟩,
  ⟨some 32, .p (.mov (.t 5)), some ⟨30, false⟩⟩,
  ⟨some 33, .p (.idxA 1 (.t 31) (.t 32)), some ⟨30, false⟩⟩,
  ⟨some 34, .p (.load false 1 (.t 33)), some ⟨30, false⟩⟩,
  ⟨some 35, .p (.bin 5 .gtr (.t 34) (.c (.int .u8 ((55 : Nat) : Int)))), some ⟨30, false⟩⟩,
  po_ 36 (.pick (.t 30) (.c (.bool true)) (.t 35)),
  mv_ 37 36,
  ⟨some 38, .p (.fieldA 0 0 (.t 6)), some ⟨37, false⟩⟩,
  ⟨some 39, .p (.load false 1 (.t 38)), some ⟨37, false⟩⟩,
  ⟨some 40, .p (.bin 3 .gtr (.t 39) (ci_ 1048576)), some ⟨37, false⟩⟩,
  po_ 41 (.pick (.t 37) (.c (.bool true)) (.t 40))] [0, 4, 5, 6, 41])
 (.cond (.t 41)
 (.seq (.ops [po_ 2 (.mov (.c (.slice none 0 0))),
   po_ 3 (.mov (.c (.bool false)))] [2, 3])
  (.ret))
 (.skip)))
 AOr)
def AN7 : AE9 := .seq (.seq (.ops [mv_ 14 5,
  mv_ 15 0,
  po_ 16 (.lenV (.t 15)),
  po_ 17 (.bin 3 .lss (.t 14) (.t 16)),
  mv_ 18 17,
  ⟨some 19, .p (.mov (.t 0)), some ⟨18, true⟩⟩,
  ⟨some 20, .p (.mov (.t 5)), some ⟨18, true⟩⟩,
  ⟨some 21, .p (.idxA 1 (.t 19) (.t 20)), some ⟨18, true⟩⟩,
  ⟨some 22, .p (.load false 1 (.t 21)), some ⟨18, true⟩⟩,
  ⟨some 23, .p (.bin 5 .neq (.t 22) (.c (.int .u8 ((32 : Nat) : Int)))), some ⟨18, true⟩⟩,
  po_ 24 (.pick (.t 18) (.t 23) (.c (.bool false)))] [0, 4, 5, 6, 24])
 (.cond (.t 24)
 (.skip)
 (.exit 2)))
 AOq
def AOm : AE9 := .seq (.seq (.ops [mv_ 58 5,
  mv_ 59 0,
  po_ 60 (.lenV (.t 59)),
  po_ 61 (.bin 3 .lss (.t 58) (.t 60)),
  mv_ 62 61,
  ⟨some 63, .p (.mov (.t 0)), some ⟨62, true⟩⟩,
  ⟨some 64, .p (.mov (.t 5)), some ⟨62, true⟩⟩,
  ⟨some 65, .p (.idxA 1 (.t 63) (.t 64)), some ⟨62, true⟩⟩,
  ⟨some 66, .p (.load false 1 (.t 65)), some ⟨62, true⟩⟩,
  ⟨some 67, .p (.bin 5 .neq (.t 66) (.c (.int .u8 ((0 : Nat) : Int)))), some ⟨62, true⟩⟩,
  po_ 68 (.pick (.t 62) (.t 67) (.c (.bool false)))] [0, 4, 5, 6, 7, 68])
 (.cond (.t 68)
 (.skip)
 (.exit 4)))
 (.block 5 (.ops [mv_ 69 5,
  po_ 70 (.bin 3 .add (.t 69) (ci_ 1)),
  mv_ 5 70] [0, 4, 5, 6, 7]))
def AOn : AE9 := .seq (.draw 5 [po_ 82 (.fieldA 2 2 (.t 6)),
  po_ 83 (.slA 20 1 (.t 82) none none),
  mv_ 84 0,
  mv_ 85 5,
  po_ 86 (.bin 3 .add (.t 85) (ci_ 1)),
  mv_ 87 5,
  po_ 88 (.bin 3 .add (.t 87) (ci_ 21)),
  po_ 89 (.slV 1 (.t 84) (some (.t 86)) (some (.t 88))),
  so_ 90 (.copy 1 (.t 83) (.t 89))] [0, 4, 5, 6])
 (.seq (.ops [mv_ 91 5,
  po_ 92 (.bin 3 .add (.t 91) (ci_ 21)),
  mv_ 5 92] [0, 4, 5, 6])
 (.ops [mv_ 93 4,
  po_ 94 (.load true 22 (.t 6)),
  ⟨some 95, .s (.bslice 22 1 (.agg [.val (.int .i64 ((0 : Nat) : Int)), .val (.string (str [])), .arr 20 1 [.val (.int .u8 ((0 : Nat) : Int)), .val (.int .u8 ((0 : Nat) : Int)), .val (.int .u8 ((0 : Nat) : Int)), .val (.int .u8 ((0 : Nat) : Int)), .val (.int .u8 ((0 : Nat) : Int)), .val (.int .u8 ((0 : Nat) : Int)), .val (.int .u8 ((0 : Nat) : Int)), .val (.int .u8 ((0 : Nat) : Int)), .val (.int .u8 ((0 : Nat) : Int)), .val (.int .u8 ((0 : Nat) : Int)), .val (.int .u8 ((0 : Nat) : Int)), .val (.int .u8 ((0 : Nat) : Int)), .val (.int .u8 ((0 : Nat) : Int)), .val (.int .u8 ((0 : Nat) : Int)), .val (.int .u8 ((0 : Nat) : Int)), .val (.int .u8 ((0 : Nat) : Int)), .val (.int .u8 ((0 : Nat) : Int)), .val (.int .u8 ((0 : Nat) : Int)), .val (.int .u8 ((0 : Nat) : Int)), .val (.int .u8 ((0 : Nat) : Int))]]) [⟨0, .t 94⟩]), none⟩,
  so_ 96 (.app 22 48 105 (.t 93) (.t 95)),
  mv_ 4 96] [0, 4, 5]))
def AN8 : AE9 := .seq (.ops [mv_ 76 0,
  mv_ 77 7,
  mv_ 78 5,
  po_ 79 (.slV 1 (.t 76) (some (.t 77)) (some (.t 78))),
  po_ 80 (.b2s (.t 79)),
  po_ 81 (.fieldA 1 1 (.t 6)),
  ⟨none, .s (.store 1 (.t 81) (.t 80)), none⟩] [0, 4, 5, 6])
 AOn
def AJ3 : AE9 := .seq (.seq (.ops [mv_ 71 0,
  po_ 72 (.lenV (.t 71)),
  mv_ 73 5,
  po_ 74 (.bin 3 .sub (.t 72) (.t 73)),
  po_ 75 (.bin 3 .lss (.t 74) (ci_ 21))] [0, 4, 5, 6, 7, 75])
 (.cond (.t 75)
 (.seq (.ops [po_ 2 (.mov (.c (.slice none 0 0))),
   po_ 3 (.mov (.c (.bool false)))] [2, 3])
  (.ret))
 (.skip)))
 AN8
def AHV : AE9 := .seq (.block 4 (.loop [0, 4, 5, 6, 7] AOm))
 AJ3
def AN5 : AE9 := .seq (.ops [mv_ 57 5,
  mv_ 7 57] [0, 4, 5, 6, 7])
 AHV
def ANa : AE9 := .seq (.ops [mv_ 55 5,
  po_ 56 (.bin 3 .add (.t 55) (ci_ 1)),
  mv_ 5 56] [0, 4, 5, 6])
 AN5
def ANk : AE9 := .seq (.block 2 (.loop [0, 4, 5, 6] AN7))
 ANa
def ANr : AE9 := .block 1 (.seq (.ops [so_ 6 (.alloc (.agg [.val (.int .i64 ((0 : Nat) : Int)), .val (.string (str [])), .arr 20 1 [.val (.int .u8 ((0 : Nat) : Int)), .val (.int .u8 ((0 : Nat) : Int)), .val (.int .u8 ((0 : Nat) : Int)), .val (.int .u8 ((0 : Nat) : Int)), .val (.int .u8 ((0 : Nat) : Int)), .val (.int .u8 ((0 : Nat) : Int)), .val (.int .u8 ((0 : Nat) : Int)), .val (.int .u8 ((0 : Nat) : Int)), .val (.int .u8 ((0 : Nat) : Int)), .val (.int .u8 ((0 : Nat) : Int)), .val (.int .u8 ((0 : Nat) : Int)), .val (.int .u8 ((0 : Nat) : Int)), .val (.int .u8 ((0 : Nat) : Int)), .val (.int .u8 ((0 : Nat) : Int)), .val (.int .u8 ((0 : Nat) : Int)), .val (.int .u8 ((0 : Nat) : Int)), .val (.int .u8 ((0 : Nat) : Int)), .val (.int .u8 ((0 : Nat) : Int)), .val (.int .u8 ((0 : Nat) : Int)), .val (.int .u8 ((0 : Nat) : Int))]]))] [0, 4, 5, 6])
 ANk)
def ANB : AE9 := .seq (.seq (.ops [mv_ 10 5,
  mv_ 11 0,
  po_ 12 (.lenV (.t 11)),
  po_ 13 (.bin 3 .lss (.t 10) (.t 12))] [0, 4, 5, 13])
 (.cond (.t 13)
 (.skip)
 (.exit 0)))
 ANr
def ANL : AE9 := .seq (.seq (.ops [mv_ 102 9,
  po_ 103 (.bin 3 .neq (.t 102) (ci_ 0)),
  mv_ 104 103,
  ⟨some 105, .p (.mov (.t 8)), some ⟨104, false⟩⟩,
  ⟨some 106, .p (.b2s (.t 105)), some ⟨104, false⟩⟩,
  ⟨some 107, .p (.mov (.t 0)), some ⟨104, false⟩⟩,
  ⟨some 108, .p (.b2s (.t 107)), some ⟨104, false⟩⟩,
  ⟨some 109, .p (.bin 9 .neq (.t 106) (.t 108)), some ⟨104, false⟩⟩,
  po_ 110 (.pick (.t 104) (.c (.bool true)) (.t 109))] [4, 110])
 (.cond (.t 110)
 (.seq (.ops [po_ 2 (.mov (.c (.slice none 0 0))),
   po_ 3 (.mov (.c (.bool false)))] [2, 3])
  (.ret))
 (.skip)))
 (.seq (.ops [mv_ 111 4,
  mv_ 2 111,
  po_ 3 (.mov (.c (.bool true)))] [2, 3])
 (.ret))
def AIm : AE9 := .seq (.ops [mv_ 98 4,
  so_ 99 (.call 19 [.t 98]),
  mv_ 97 99,
  po_ 100 (.ext 0 (.t 97)),
  po_ 101 (.ext 1 (.t 97)),
  mv_ 8 100,
  mv_ 9 101] [0, 4, 8, 9])
 ANL
def ANN : AE9 := .seq (.block 0 (.own 4 22 (.loop [0, 4, 5] ANB)))
 AIm
def ANw : AE9 := .seq (.ops [po_ 5 (.mov (ci_ 0))] [0, 4, 5])
 ANN
def ANb : AE9 := .seq (.ops [po_ 4 (.mov (.c (.slice none 0 0)))] [0, 4])
 ANw
def ASg : AE9 := .seq (.ops [po_ 2 (.mov (.c (.slice none 0 0))),
  po_ 3 (.mov (.c (.bool false)))] [0])
 ANb
def ANc : List VR := [.tmp 2, .tmp 3]
theorem AXn : Tryz.f54.body.bind (trC Tryz.prog Tryz.f54.ntmps) = some (er ASg) := by kernel_rfl
theorem AXL : trR Tryz.prog Tryz.f54.results.toList = some ANc := by kernel_rfl
def ATm := AE8 AOr.eq_1
def AHl := AE8 AOq.eq_1
def AF1 := AE8 AN7.eq_1
def AIc := AE8 AOm.eq_1
def ATh := AE8 AOn.eq_1
def ATr := AE8 AN8.eq_1
def AMz := AE8 AJ3.eq_1
def ATn := AE8 AHV.eq_1
def AMI := AE8 AN5.eq_1
def ALB := AE8 ANa.eq_1
def ASU := AE8 ANk.eq_1
def ASl := AE8 ANr.eq_1
def ALJ := AE8 ANB.eq_1
def AHZ := AE8 ANL.eq_1
def ASq := AE8 AIm.eq_1
def ASs := AE8 ANN.eq_1
def ASO := AE8 ANw.eq_1
def ASj := AE8 ANb.eq_1
def AWo := AE8 ASg.eq_1
theorem AF7 {K : TV → Prop} {e : Env} {H : List Ob} : res ANc e H K = res [.tmp 2, .tmp 3] e H K := AE7 rfl
def AW5 := AH5 112 Tryz.func54 AXn AXL rfl

def ASM : AE9 := .seq (.ops [po_ 7 (.bin 3 .eql (.t 3) (ci_ 33188)),
  mv_ 6 7] [3, 6])
 (.cond (.t 6)
 (.seq (.ops [po_ 2 (.mov (.c (.string (str [49, 48, 48, 54, 52, 52]))))] [2])
  (.ret))
 (.seq (.ops [po_ 9 (.bin 3 .eql (.t 3) (ci_ 33261)),
   mv_ 8 9] [3, 8])
  (.cond (.t 8)
  (.seq (.ops [po_ 2 (.mov (.c (.string (str [49, 48, 48, 55, 53, 53]))))] [2])
   (.ret))
  (.seq (.ops [po_ 11 (.bin 3 .eql (.t 3) (ci_ 40960)),
    mv_ 10 11] [10])
   (.cond (.t 10)
   (.seq (.ops [po_ 2 (.mov (.c (.string (str [49, 50, 48, 48, 48, 48]))))] [2])
    (.ret))
   (.skip))))))
def AR7 : AE9 := .seq (.seq (.ops [mv_ 3 0] [3])
 (.block 0 (.seq (.ops [po_ 5 (.bin 3 .eql (.t 3) (ci_ 16384)),
  mv_ 4 5] [3, 4])
 (.cond (.t 4)
 (.seq (.ops [po_ 2 (.mov (.c (.string (str [52, 48, 48, 48, 48]))))] [2])
  (.ret))
 ASM))))
 (.seq (.ops [po_ 2 (.mov (.c (.string (str []))))] [2])
 (.ret))
def AWD : AE9 := .seq (.ops [po_ 2 (.mov (.c (.string (str []))))] [0])
 AR7
def AWA : List VR := [.tmp 2]
theorem A0t : Tryz.f51.body.bind (trC Tryz.prog Tryz.f51.ntmps) = some (er AWD) := by kernel_rfl
theorem A0E : trR Tryz.prog Tryz.f51.results.toList = some AWA := by kernel_rfl
def AH9 := AE8 ASM.eq_1
def AHo := AE8 AR7.eq_1
def AIh := AE8 AWD.eq_1
theorem AIi {K : TV → Prop} {e : Env} {H : List Ob} : res AWA e H K = res [.tmp 2] e H K := AE7 rfl
def AZv := AH5 12 Tryz.func51 A0t A0E rfl

def ARf : AE9 := .seq (.seq (.draw 14 [mv_ 13 5,
  mv_ 14 3,
  po_ 15 (.lenV (.t 14)),
  po_ 16 (.bin 3 .lss (.t 13) (.t 15)),
  mv_ 17 16,
  ⟨some 18, .p (.mov (.t 3)), some ⟨17, true⟩⟩,
  ⟨some 19, .p (.mov (.t 5)), some ⟨17, true⟩⟩,
  ⟨some 20, .p (.idxA 22 (.t 18) (.t 19)), some ⟨17, true⟩⟩,
  ⟨some 21, .p (.load true 22 (.t 20)), some ⟨17, true⟩⟩,
  ⟨some 22, .s (.call 87 [.t 21]), some ⟨17, true⟩⟩,
  ⟨some 23, .p (.mov (.t 0)), some ⟨17, true⟩⟩,
  ⟨some 24, .p (.mov (.t 4)), some ⟨17, true⟩⟩,
  ⟨some 25, .p (.idxA 22 (.t 23) (.t 24)), some ⟨17, true⟩⟩,
  ⟨some 26, .p (.load true 22 (.t 25)), some ⟨17, true⟩⟩,
  ⟨some 27, .s (.call 87 [.t 26]), some ⟨17, true⟩⟩,
  ⟨some 28, .p (.bin 9 .leq (.t 22) (.t 27)), some ⟨17, true⟩⟩,
  po_ 29 (.pick (.t 17) (.t 28) (.c (.bool false)))] [0, 3, 4, 5, 29])
 (.cond (.t 29)
 (.skip)
 (.exit 2)))
 (.block 3 (.ops [mv_ 30 5,
  po_ 31 (.bin 3 .add (.t 30) (ci_ 1)),
  mv_ 5 31] [0, 3, 4, 5]))
def ARB : AE9 := .seq (.ops [mv_ 37 6,
  mv_ 38 0,
  mv_ 39 4,
  po_ 40 (.idxA 22 (.t 38) (.t 39)),
  po_ 41 (.load true 22 (.t 40)),
  ⟨some 42, .s (.bslice 22 1 (.agg [.val (.int .i64 ((0 : Nat) : Int)), .val (.string (str [])), .arr 20 1 [.val (.int .u8 ((0 : Nat) : Int)), .val (.int .u8 ((0 : Nat) : Int)), .val (.int .u8 ((0 : Nat) : Int)), .val (.int .u8 ((0 : Nat) : Int)), .val (.int .u8 ((0 : Nat) : Int)), .val (.int .u8 ((0 : Nat) : Int)), .val (.int .u8 ((0 : Nat) : Int)), .val (.int .u8 ((0 : Nat) : Int)), .val (.int .u8 ((0 : Nat) : Int)), .val (.int .u8 ((0 : Nat) : Int)), .val (.int .u8 ((0 : Nat) : Int)), .val (.int .u8 ((0 : Nat) : Int)), .val (.int .u8 ((0 : Nat) : Int)), .val (.int .u8 ((0 : Nat) : Int)), .val (.int .u8 ((0 : Nat) : Int)), .val (.int .u8 ((0 : Nat) : Int)), .val (.int .u8 ((0 : Nat) : Int)), .val (.int .u8 ((0 : Nat) : Int)), .val (.int .u8 ((0 : Nat) : Int)), .val (.int .u8 ((0 : Nat) : Int))]]) [⟨0, .t 41⟩]), none⟩,
  so_ 43 (.app 22 48 105 (.t 37) (.t 42)),
  mv_ 6 43] [0, 3, 4, 5, 6])
 (.ops [mv_ 44 6,
  mv_ 45 3,
  mv_ 46 5,
  po_ 47 (.slV 22 (.t 45) (some (.t 46)) none),
  so_ 48 (.app 22 48 105 (.t 44) (.t 47)),
  mv_ 3 48] [0, 3, 4])
def ARw : AE9 := .seq (.ops [mv_ 32 6,
  mv_ 33 3,
  mv_ 34 5,
  po_ 35 (.slV 22 (.t 33) none (some (.t 34))),
  so_ 36 (.app 22 48 105 (.t 32) (.t 35)),
  mv_ 6 36] [0, 3, 4, 5, 6])
 ARB
def AL9 : AE9 := .seq (.ops [po_ 6 (.mov (.c (.slice none 0 0)))] [0, 3, 4, 5, 6])
 ARw
def ARx : AE9 := .seq (.block 2 (.own 3 22 (.loop [0, 3, 4, 5] ARf)))
 AL9
def ARg : AE9 := .ops [mv_ 11 4,
  po_ 12 (.bin 3 .add (.t 11) (ci_ 1)),
  mv_ 4 12] [0, 3, 4]
def ARs : AE9 := .seq (.block 1 (.seq (.ops [po_ 5 (.mov (ci_ 0))] [0, 3, 4, 5])
 ARx))
 ARg
def ARm : AE9 := .seq (.seq (.ops [mv_ 7 4,
  mv_ 8 0,
  po_ 9 (.lenV (.t 8)),
  po_ 10 (.bin 3 .lss (.t 7) (.t 9))] [0, 3, 4, 10])
 (.cond (.t 10)
 (.skip)
 (.exit 0)))
 ARs
def ARp : AE9 := .block 0 (.own 3 22 (.loop [0, 3, 4] ARm))
def AP5 : AE9 := .seq (.ops [mv_ 49 3,
  mv_ 2 49] [2])
 (.ret)
def APu : AE9 := .seq (.seq (.ops [po_ 4 (.mov (ci_ 0))] [0, 3, 4])
 ARp)
 AP5
def APD : AE9 := .seq (.ops [po_ 3 (.mov (.c (.slice none 0 0)))] [0, 3])
 APu
def AVq : AE9 := .seq (.ops [po_ 2 (.mov (.c (.slice none 0 0)))] [0])
 APD
def AVH : List VR := [.tmp 2]
theorem AZG : Tryz.f52.body.bind (trC Tryz.prog Tryz.f52.ntmps) = some (er AVq) := by kernel_rfl
theorem AYT : trR Tryz.prog Tryz.f52.results.toList = some AVH := by kernel_rfl
def AN4 := AE8 ARf.eq_1
def AVo := AE8 ARB.eq_1
def AU2 := AE8 ARw.eq_1
def AVn := AE8 AL9.eq_1
def AVg := AE8 ARx.eq_1
def AOh := AE8 ARg.eq_1
def AU8 := AE8 ARs.eq_1
def AOk := AE8 ARm.eq_1
def AVz := AE8 ARp.eq_1
def AT6 := AE8 AP5.eq_1
def ATU := AE8 APu.eq_1
def AUP := AE8 APD.eq_1
def AXG := AE8 AVq.eq_1
theorem AXy {K : TV → Prop} {e : Env} {H : List Ob} : res AVH e H K = res [.tmp 2] e H K := AE7 rfl
def AYl := AH5 50 Tryz.func52 AZG AYT rfl

def AYR : AE9 := .seq (.ops [so_ 1 (.box (.t 0)),
  po_ 2 (.mov (.c (.string (str []))))] [1])
 (.seq (.seq (.ops [po_ 3 (.fieldA 0 0 (.t 1)),
  po_ 4 (.load false 1 (.t 3)),
  po_ 5 (.bin 3 .eql (.t 4) (ci_ 16384))] [1, 5])
 (.cond (.t 5)
 (.seq (.ops [po_ 6 (.fieldA 1 1 (.t 1)),
   po_ 7 (.load false 1 (.t 6)),
   po_ 8 (.bin 9 .add (.t 7) (.c (.string (str [47])))),
   mv_ 2 8] [2])
  (.ret))
 (.skip)))
 (.seq (.ops [po_ 9 (.fieldA 1 1 (.t 1)),
  po_ 10 (.load false 1 (.t 9)),
  mv_ 2 10] [2])
 (.ret)))
def AYp : List VR := [.tmp 2]
theorem A3B : Tryz.f87.body.bind (trC Tryz.prog Tryz.f87.ntmps) = some (er AYR) := by kernel_rfl
theorem A3h : trR Tryz.prog Tryz.f87.results.toList = some AYp := by kernel_rfl
def AZX := AE8 AYR.eq_1
theorem A0r {K : TV → Prop} {e : Env} {H : List Ob} : res AYp e H K = res [.tmp 2] e H K := AE7 rfl
def AYE := (And.intro @AZX @A0r)
def A1X := AH5 11 Tryz.func87 A3B A3h rfl

def ARo : AE9 := .seq (.block 1 (.seq (.ops [mv_ 30 0,
  mv_ 31 3,
  po_ 32 (.idxS (.t 30) (.t 31)),
  po_ 33 (.bin 5 .eql (.t 32) (.c (.int .u8 ((0 : Nat) : Int)))),
  mv_ 34 33,
  ⟨some 35, .p (.mov (.t 0)), some ⟨34, false⟩⟩,
  ⟨some 36, .p (.mov (.t 3)), some ⟨34, false⟩⟩,
  ⟨some 37, .p (.idxS (.t 35) (.t 36)), some ⟨34, false⟩⟩,
  ⟨some 38, .p (.bin 5 .eql (.t 37) (.c (.int .u8 ((47 : Nat) : Int)))), some ⟨34, false⟩⟩,
  po_ 39 (.pick (.t 34) (.c (.bool true)) (.t 38))] [0, 3, 39])
 (.cond (.t 39)
 (.seq (.ops [po_ 2 (.mov (.c (.bool false)))] [2])
  (.ret))
 (.skip))))
 (.ops [mv_ 28 3,
  po_ 29 (.bin 3 .add (.t 28) (ci_ 1)),
  mv_ 3 29] [0, 3])
def ARi : AE9 := .seq (.seq (.ops [mv_ 24 3,
  mv_ 25 0,
  po_ 26 (.lenS (.t 25)),
  po_ 27 (.bin 3 .lss (.t 24) (.t 26))] [0, 3, 27])
 (.cond (.t 27)
 (.skip)
 (.exit 0)))
 ARo
def ARn : AE9 := .block 0 (.loop [0, 3] ARi)
def ARr : AE9 := .seq (.ops [po_ 2 (.mov (.c (.bool true)))] [2])
 (.ret)
def ARF : AE9 := .seq (.seq (.ops [po_ 3 (.mov (ci_ 0))] [0, 3])
 ARn)
 ARr
def ARj : AE9 := .seq (.seq (.ops [mv_ 4 0,
  po_ 5 (.lenS (.t 4)),
  po_ 6 (.bin 3 .lss (.t 5) (ci_ 1)),
  mv_ 7 6,
  ⟨some 8, .p (.mov (.t 0)), some ⟨7, false⟩⟩,
  ⟨some 9, .p (.lenS (.t 8)), some ⟨7, false⟩⟩,
  ⟨some 10, .p (.bin 3 .gtr (.t 9) (ci_ 50)), some ⟨7, false⟩⟩,
  po_ 11 (.pick (.t 7) (.c (.bool true)) (.t 10)),
  mv_ 12 11,
  ⟨some 13, .p (.mov (.t 0)), some ⟨12, false⟩⟩,
  ⟨some 14, .p (.bin 9 .eql (.t 13) (.c (.string (str [46])))), some ⟨12, false⟩⟩,
  po_ 15 (.pick (.t 12) (.c (.bool true)) (.t 14)),
  mv_ 16 15,
  ⟨some 17, .p (.mov (.t 0)), some ⟨16, false⟩⟩,
  ⟨some 18, .p (.bin 9 .eql (.t 17) (.c (.string (str [46, 46])))), some ⟨16, false⟩⟩,
  po_ 19 (.pick (.t 16) (.c (.bool true)) (.t 18)),
  mv_ 20 19,
  ⟨some 21, .p (.mov (.t 0)), some ⟨20, false⟩⟩,
  ⟨some 22, .p (.bin 9 .eql (.t 21) (.c (.string (str [46, 103, 105, 116])))), some ⟨20, false⟩⟩,
  po_ 23 (.pick (.t 20) (.c (.bool true)) (.t 22))] [0, 23])
 (.cond (.t 23)
 (.seq (.ops [po_ 2 (.mov (.c (.bool false)))] [2])
  (.ret))
 (.skip)))
 ARF
def AUY : AE9 := .seq (.ops [po_ 2 (.mov (.c (.bool false)))] [0])
 ARj
def AU3 : List VR := [.tmp 2]
theorem AZE : Tryz.f50.body.bind (trC Tryz.prog Tryz.f50.ntmps) = some (er AUY) := by kernel_rfl
theorem AZd : trR Tryz.prog Tryz.f50.results.toList = some AU3 := by kernel_rfl
def AUU := AE8 ARo.eq_1
def AU6 := AE8 ARi.eq_1
def AVd := AE8 ARn.eq_1
def AVu := AE8 ARr.eq_1
def AVw := AE8 ARF.eq_1
def AVt := AE8 ARj.eq_1
def AXM := AE8 AUY.eq_1
theorem AX0 {K : TV → Prop} {e : Env} {H : List Ob} : res AU3 e H K = res [.tmp 2] e H K := AE7 rfl
def AF8 := (And.intro (And.intro (And.intro @AUU @AU6) (And.intro @AVd @AVu)) (And.intro (And.intro @AVw @AVt) (And.intro @AXM @AX0)))
def AYi := AH5 40 Tryz.func50 AZE AZd rfl

def AOg : AE9 := .seq (.seq (.ops [mv_ 3 0] [0, 3])
 (.block 0 (.seq (.seq (.ops [po_ 5 (.bin 9 .eql (.t 3) (.c (.string (str [])))),
  mv_ 4 5] [0, 3, 4])
 (.cond (.t 4)
 (.skip)
 (.seq (.ops [po_ 6 (.bin 9 .eql (.t 3) (.c (.string (str [46])))),
   mv_ 4 6] [0, 3, 4])
  (.cond (.t 4)
  (.skip)
  (.seq (.ops [po_ 7 (.bin 9 .eql (.t 3) (.c (.string (str [46, 46])))),
    mv_ 4 7] [0, 3, 4])
   (.cond (.t 4)
   (.skip)
   (.ops [po_ 8 (.bin 9 .eql (.t 3) (.c (.string (str [46, 103, 105, 116])))),
     mv_ 4 8] [0, 4])))))))
 (.cond (.t 4)
 (.seq (.ops [po_ 2 (.mov (.c (.bool false)))] [2])
  (.ret))
 (.skip)))))
 (.seq (.ops [mv_ 9 0,
  po_ 10 (.lenS (.t 9)),
  po_ 11 (.bin 3 .leq (.t 10) (ci_ 50)),
  mv_ 12 11,
  ⟨some 13, .p (.mov (.t 0)), some ⟨12, true⟩⟩,
  ⟨some 14, .s (.call 90 [.t 13, .c (.string (str [47, 0]))]), some ⟨12, true⟩⟩,
  ⟨some 15, .p (.un .not (.t 14)), some ⟨12, true⟩⟩,
  po_ 16 (.pick (.t 12) (.t 15) (.c (.bool false))),
  mv_ 2 16] [2])
 (.ret))
def ASk : AE9 := .seq (.ops [po_ 2 (.mov (.c (.bool false)))] [0])
 AOg
def AR5 : List VR := [.tmp 2]
theorem AXN : Tryz.f81.body.bind (trC Tryz.prog Tryz.f81.ntmps) = some (er ASk) := by kernel_rfl
theorem AXD : trR Tryz.prog Tryz.f81.results.toList = some AR5 := by kernel_rfl
def ATe := AE8 AOg.eq_1
def AV1 := AE8 ASk.eq_1
theorem AWk {K : TV → Prop} {e : Env} {H : List Ob} : res AR5 e H K = res [.tmp 2] e H K := AE7 rfl
def AGf := (And.intro (And.intro @ATe @AV1) @AWk)
def AWV := AH5 17 Tryz.func81 AXN AXD rfl

def APS : AE9 := .seq (.block 1 (.draw 11 [mv_ 11 3,
  mv_ 12 0,
  mv_ 13 4,
  po_ 14 (.idxA 22 (.t 12) (.t 13)),
  po_ 15 (.fieldA 0 0 (.t 14)),
  po_ 16 (.load false 1 (.t 15)),
  mv_ 17 0,
  mv_ 18 4,
  po_ 19 (.idxA 22 (.t 17) (.t 18)),
  po_ 20 (.fieldA 1 1 (.t 19)),
  po_ 21 (.load false 1 (.t 20)),
  mv_ 22 0,
  mv_ 23 4,
  po_ 24 (.idxA 22 (.t 22) (.t 23)),
  po_ 25 (.fieldA 2 2 (.t 24)),
  po_ 26 (.load true 20 (.t 25)),
  ⟨some 27, .p (.build [.val (.int .i64 ((0 : Nat) : Int)), .val (.string (str [])), .arr 20 1 [.val (.int .u8 ((0 : Nat) : Int)), .val (.int .u8 ((0 : Nat) : Int)), .val (.int .u8 ((0 : Nat) : Int)), .val (.int .u8 ((0 : Nat) : Int)), .val (.int .u8 ((0 : Nat) : Int)), .val (.int .u8 ((0 : Nat) : Int)), .val (.int .u8 ((0 : Nat) : Int)), .val (.int .u8 ((0 : Nat) : Int)), .val (.int .u8 ((0 : Nat) : Int)), .val (.int .u8 ((0 : Nat) : Int)), .val (.int .u8 ((0 : Nat) : Int)), .val (.int .u8 ((0 : Nat) : Int)), .val (.int .u8 ((0 : Nat) : Int)), .val (.int .u8 ((0 : Nat) : Int)), .val (.int .u8 ((0 : Nat) : Int)), .val (.int .u8 ((0 : Nat) : Int)), .val (.int .u8 ((0 : Nat) : Int)), .val (.int .u8 ((0 : Nat) : Int)), .val (.int .u8 ((0 : Nat) : Int)), .val (.int .u8 ((0 : Nat) : Int))]] [1, 1, 20] [⟨0, .t 16⟩, ⟨1, .t 21⟩, ⟨2, .t 26⟩]), none⟩,
  ⟨some 28, .s (.bslice 22 1 (.agg [.val (.int .i64 ((0 : Nat) : Int)), .val (.string (str [])), .arr 20 1 [.val (.int .u8 ((0 : Nat) : Int)), .val (.int .u8 ((0 : Nat) : Int)), .val (.int .u8 ((0 : Nat) : Int)), .val (.int .u8 ((0 : Nat) : Int)), .val (.int .u8 ((0 : Nat) : Int)), .val (.int .u8 ((0 : Nat) : Int)), .val (.int .u8 ((0 : Nat) : Int)), .val (.int .u8 ((0 : Nat) : Int)), .val (.int .u8 ((0 : Nat) : Int)), .val (.int .u8 ((0 : Nat) : Int)), .val (.int .u8 ((0 : Nat) : Int)), .val (.int .u8 ((0 : Nat) : Int)), .val (.int .u8 ((0 : Nat) : Int)), .val (.int .u8 ((0 : Nat) : Int)), .val (.int .u8 ((0 : Nat) : Int)), .val (.int .u8 ((0 : Nat) : Int)), .val (.int .u8 ((0 : Nat) : Int)), .val (.int .u8 ((0 : Nat) : Int)), .val (.int .u8 ((0 : Nat) : Int)), .val (.int .u8 ((0 : Nat) : Int))]]) [⟨0, .t 27⟩]), none⟩,
  so_ 29 (.app 22 48 105 (.t 11) (.t 28)),
  mv_ 3 29] [0, 3, 4]))
 (.ops [mv_ 9 4,
  po_ 10 (.bin 3 .add (.t 9) (ci_ 1)),
  mv_ 4 10] [0, 3, 4])
def APT : AE9 := .seq (.seq (.ops [mv_ 5 4,
  mv_ 6 0,
  po_ 7 (.lenV (.t 6)),
  po_ 8 (.bin 3 .lss (.t 5) (.t 7))] [0, 3, 4, 8])
 (.cond (.t 8)
 (.skip)
 (.exit 0)))
 APS
def AQp : AE9 := .block 0 (.own 3 22 (.loop [0, 3, 4] APT))
def AQf : AE9 := .seq (.ops [mv_ 30 3,
  mv_ 2 30] [2])
 (.ret)
def APQ : AE9 := .seq (.seq (.ops [po_ 4 (.mov (ci_ 0))] [0, 3, 4])
 AQp)
 AQf
def AP1 : AE9 := .seq (.ops [po_ 3 (.mov (.c (.slice none 0 0)))] [0, 3])
 APQ
def ATt : AE9 := .seq (.ops [po_ 2 (.mov (.c (.slice none 0 0)))] [0])
 AP1
def ATD : List VR := [.tmp 2]
theorem AX5 : Tryz.f18.body.bind (trC Tryz.prog Tryz.f18.ntmps) = some (er ATt) := by kernel_rfl
theorem AYm : trR Tryz.prog Tryz.f18.results.toList = some ATD := by kernel_rfl
def AUH := AE8 APS.eq_1
def ANs := AE8 APT.eq_1
def AUQ := AE8 AQp.eq_1
def AUq := AE8 AQf.eq_1
def AUz := AE8 APQ.eq_1
def ATM := AE8 AP1.eq_1
def AWR := AE8 ATt.eq_1
theorem AWT {K : TV → Prop} {e : Env} {H : List Ob} : res ATD e H K = res [.tmp 2] e H K := AE7 rfl
def AXS := AH5 31 Tryz.func18 AX5 AYm rfl

def ALH : AE9 := .seq (.block 1 (.seq (.draw 4 [mv_ 40 5,
  mv_ 41 9,
  po_ 42 (.idxA 22 (.t 40) (.t 41)),
  po_ 43 (.load true 22 (.t 42)),
  mv_ 44 0,
  mv_ 45 9,
  po_ 46 (.idxA 22 (.t 44) (.t 45)),
  po_ 47 (.load true 22 (.t 46)),
  po_ 48 (.gen (.eqR [.i, .s, .b 20] true) [.t 43, .t 47])] [0, 1, 5, 6, 8, 9, 48])
 (.cond (.t 48)
 (.seq (.ops [po_ 4 (.mov (.c (.bool false)))] [4])
  (.ret))
 (.skip))))
 (.ops [mv_ 38 9,
  po_ 39 (.bin 3 .add (.t 38) (ci_ 1)),
  mv_ 9 39] [0, 1, 5, 6, 8, 9])
def ALy : AE9 := .seq (.seq (.ops [mv_ 34 9,
  mv_ 35 0,
  po_ 36 (.lenV (.t 35)),
  po_ 37 (.bin 3 .lss (.t 34) (.t 36))] [0, 1, 5, 6, 8, 9, 37])
 (.cond (.t 37)
 (.skip)
 (.exit 0)))
 ALH
def AH4 : AE9 := .block 0 (.loop [0, 1, 5, 6, 8, 9] ALy)
def ALD : AE9 := .seq (.ops [mv_ 70 14,
  mv_ 71 70,
  ⟨some 72, .p (.mov (.t 6)), some ⟨71, true⟩⟩,
  ⟨some 73, .p (.lenV (.t 72)), some ⟨71, true⟩⟩,
  ⟨some 74, .p (.bin 3 .eql (.t 73) (ci_ 0)), some ⟨71, true⟩⟩,
  po_ 75 (.pick (.t 71) (.t 74) (.c (.bool false))),
  mv_ 4 75] [4])
 (.ret)
def AL5 : AE9 := .seq (.seq (.ops [mv_ 68 12,
  po_ 69 (.bin 3 .neq (.t 68) (ci_ 0))] [6, 14, 69])
 (.cond (.t 69)
 ALD
 (.skip)))
 (.seq (.ops [mv_ 76 6,
  so_ 77 (.call 20 [.t 76]),
  mv_ 15 77] [14, 15])
 (.seq (.ops [mv_ 78 14,
  mv_ 79 78,
  ⟨some 80, .p (.mov (.t 15)), some ⟨79, true⟩⟩,
  po_ 81 (.pick (.t 79) (.t 80) (.c (.bool false))),
  mv_ 4 81] [4])
 (.ret)))
def ALt : AE9 := .seq (.ops [mv_ 66 1,
  so_ 67 (.call 20 [.t 66]),
  mv_ 14 67] [6, 12, 14])
 AL5
def AL0 : AE9 := .seq (.seq (.ops [mv_ 59 13,
  po_ 60 (.un .not (.t 59)),
  mv_ 61 60,
  ⟨some 62, .p (.mov (.t 8)), some ⟨61, false⟩⟩,
  ⟨some 63, .p (.mov (.t 12)), some ⟨61, false⟩⟩,
  ⟨some 64, .p (.bin 3 .neq (.t 62) (.t 63)), some ⟨61, false⟩⟩,
  po_ 65 (.pick (.t 61) (.c (.bool true)) (.t 64))] [1, 6, 12, 65])
 (.cond (.t 65)
 (.seq (.ops [po_ 4 (.mov (.c (.bool false)))] [4])
  (.ret))
 (.skip)))
 ALt
def ALQ : AE9 := .seq (.ops [mv_ 56 6,
  mv_ 57 11,
  so_ 58 (.call 11 [.t 56, .t 57]),
  mv_ 13 58] [1, 6, 8, 12, 13])
 AL0
def ALW : AE9 := .seq (.ops [mv_ 52 10,
  so_ 53 (.call 19 [.t 52]),
  mv_ 51 53,
  po_ 54 (.ext 0 (.t 51)),
  po_ 55 (.ext 1 (.t 51)),
  mv_ 11 54,
  mv_ 12 55] [1, 6, 8, 11, 12])
 ALQ
def AKE : AE9 := .seq (.ops [mv_ 49 0,
  so_ 50 (.call 18 [.t 49]),
  mv_ 10 50] [1, 6, 8, 10])
 ALW
def AKj : AE9 := .seq (.seq (.ops [po_ 9 (.mov (ci_ 0))] [0, 1, 5, 6, 8, 9])
 AH4)
 AKE
def AKm : AE9 := .seq (.ops [mv_ 32 7,
  so_ 33 (.call 8 [.t 32]),
  mv_ 8 33] [0, 1, 5, 6, 8])
 AKj
def AKP : AE9 := .seq (.ops [mv_ 28 5,
  so_ 29 (.call 17 [.t 28]),
  mv_ 27 29,
  po_ 30 (.ext 0 (.t 27)),
  po_ 31 (.ext 1 (.t 27)),
  mv_ 6 30,
  mv_ 7 31] [0, 1, 5, 6, 7])
 AKm
def AKR : AE9 := .own 5 22 (.seq (.ops [mv_ 24 5,
  mv_ 25 0,
  so_ 26 (.app 22 48 60 (.t 24) (.t 25)),
  mv_ 5 26] [0, 1, 5])
 AKP)
def AKo : AE9 := .seq (.ops [po_ 5 (.mov (.c (.slice none 0 0)))] [0, 1, 5])
 AKR
def AKA : AE9 := .seq (.seq (.ops [mv_ 16 0,
  po_ 17 (.lenV (.t 16)),
  po_ 18 (.bin 3 .gtr (.t 17) (ci_ 200)),
  mv_ 19 18,
  ⟨some 20, .p (.mov (.t 1)), some ⟨19, false⟩⟩,
  ⟨some 21, .p (.lenV (.t 20)), some ⟨19, false⟩⟩,
  ⟨some 22, .p (.bin 3 .gtr (.t 21) (ci_ 8000)), some ⟨19, false⟩⟩,
  po_ 23 (.pick (.t 19) (.c (.bool true)) (.t 22))] [0, 1, 23])
 (.cond (.t 23)
 (.seq (.ops [po_ 4 (.mov (.c (.bool true)))] [4])
  (.ret))
 (.skip)))
 AKo
def AOf : AE9 := .seq (.ops [po_ 4 (.mov (.c (.bool false)))] [0, 1])
 AKA
def AN6 : List VR := [.tmp 4]
theorem AVF : Tryz.f5.body.bind (trC Tryz.prog Tryz.f5.ntmps) = some (er AOf) := by kernel_rfl
theorem AVp : trR Tryz.prog Tryz.f5.results.toList = some AN6 := by kernel_rfl
def AQF := AE8 ALH.eq_1
def AJu := AE8 ALy.eq_1
def AQI := AE8 AH4.eq_1
def AQX := AE8 ALD.eq_1
def AJy := AE8 AL5.eq_1
def AJj := AE8 ALt.eq_1
def AJK := AE8 AL0.eq_1
def AJB := AE8 ALQ.eq_1
def AJX := AE8 ALW.eq_1
def AIF := AE8 AKE.eq_1
def AIC := AE8 AKj.eq_1
def AIy := AE8 AKm.eq_1
def APp := AE8 AKP.eq_1
def APU := AE8 AKR.eq_1
def AQr := AE8 AKo.eq_1
def AHu := AE8 AKA.eq_1
def AIb := AE8 AOf.eq_1
theorem AHk {K : TV → Prop} {e : Env} {H : List Ob} : res AN6 e H K = res [.tmp 4] e H K := AE7 rfl
def AUO := AH5 82 Tryz.func5 AVF AVp rfl

def ANi : AE9 := .seq (.ops [mv_ 30 7,
  mv_ 31 30,
  ⟨some 32, .p (.mov (.t 6)), some ⟨31, true⟩⟩,
  ⟨some 33, .p (.bin 34 .eql (.t 32) (ci_ 21)), some ⟨31, true⟩⟩,
  po_ 34 (.pick (.t 31) (.t 33) (.c (.bool false))),
  mv_ 35 34,
  ⟨some 36, .p (.mov (.t 4)), some ⟨35, true⟩⟩,
  ⟨some 37, .p (.lenV (.t 36)), some ⟨35, true⟩⟩,
  ⟨some 38, .p (.bin 3 .eql (.t 37) (ci_ 0)), some ⟨35, true⟩⟩,
  po_ 39 (.pick (.t 35) (.t 38) (.c (.bool false))),
  mv_ 2 39] [2])
 (.ret)
def ANp : AE9 := .seq (.block 1 (.seq (.draw 31 [mv_ 59 4,
  mv_ 60 10,
  po_ 61 (.idxA 22 (.t 59) (.t 60)),
  po_ 62 (.fieldA 0 0 (.t 61)),
  po_ 63 (.load false 1 (.t 62)),
  mv_ 64 8,
  mv_ 65 10,
  po_ 66 (.idxA 22 (.t 64) (.t 65)),
  po_ 67 (.fieldA 0 0 (.t 66)),
  po_ 68 (.load false 1 (.t 67)),
  po_ 69 (.bin 3 .neq (.t 63) (.t 68)),
  mv_ 70 69,
  ⟨some 71, .p (.mov (.t 4)), some ⟨70, false⟩⟩,
  ⟨some 72, .p (.mov (.t 10)), some ⟨70, false⟩⟩,
  ⟨some 73, .p (.idxA 22 (.t 71) (.t 72)), some ⟨70, false⟩⟩,
  ⟨some 74, .p (.fieldA 1 1 (.t 73)), some ⟨70, false⟩⟩,
  ⟨some 75, .p (.load false 1 (.t 74)), some ⟨70, false⟩⟩,
  ⟨some 76, .p (.mov (.t 8)), some ⟨70, false⟩⟩,
  ⟨some 77, .p (.mov (.t 10)), some ⟨70, false⟩⟩,
  ⟨some 78, .p (.idxA 22 (.t 76) (.t 77)), some ⟨70, false⟩⟩,
  ⟨some 79, .p (.fieldA 1 1 (.t 78)), some ⟨70, false⟩⟩,
  ⟨some 80, .p (.load false 1 (.t 79)), some ⟨70, false⟩⟩,
  ⟨some 81, .p (.bin 9 .neq (.t 75) (.t 80)), some ⟨70, false⟩⟩,
  po_ 82 (.pick (.t 70) (.c (.bool true)) (.t 81)),
  mv_ 83 82,
  ⟨some 84, .p (.mov (.t 4)), some ⟨83, false⟩⟩,
  ⟨some 85, .p (.mov (.t 10)), some ⟨83, false⟩⟩,
  ⟨some 86, .p (.idxA 22 (.t 84) (.t 85)), some ⟨83, false⟩⟩,
  ⟨some 87, .p (.fieldA 2 2 (.t 86)), some ⟨83, false⟩⟩,
  ⟨some 88, .p (.load true 20 (.t 87)), some ⟨83, false⟩⟩,
  ⟨some 89, .p (.mov (.t 8)), some ⟨83, false⟩⟩,
  ⟨some 90, .p (.mov (.t 10)), some ⟨83, false⟩⟩,
  ⟨some 91, .p (.idxA 22 (.t 89) (.t 90)), some ⟨83, false⟩⟩,
  ⟨some 92, .p (.fieldA 2 2 (.t 91)), some ⟨83, false⟩⟩,
  ⟨some 93, .p (.load true 20 (.t 92)), some ⟨83, false⟩⟩,
  ⟨some 94, .p (.gen (.eqA 20 true) [.t 88, .t 93]), some ⟨83, false⟩⟩,
  po_ 95 (.pick (.t 83) (.c (.bool true)) (.t 94))] [4, 8, 10, 95])
 (.cond (.t 95)
 (.seq (.ops [po_ 2 (.mov (.c (.bool false)))] [2])
  (.ret))
 (.skip))))
 (.ops [mv_ 57 10,
  po_ 58 (.bin 3 .add (.t 57) (ci_ 1)),
  mv_ 10 58] [4, 8, 10])
def AM3 : AE9 := .seq (.seq (.ops [mv_ 53 10,
  mv_ 54 4,
  po_ 55 (.lenV (.t 54)),
  po_ 56 (.bin 3 .lss (.t 53) (.t 55))] [4, 8, 10, 56])
 (.cond (.t 56)
 (.skip)
 (.exit 0)))
 ANp
def ANF : AE9 := .block 0 (.loop [4, 8, 10] AM3)
def ANh : AE9 := .seq (.ops [po_ 2 (.mov (.c (.bool true)))] [2])
 (.ret)
def AM7 : AE9 := .seq (.seq (.ops [po_ 10 (.mov (ci_ 0))] [4, 8, 10])
 ANF)
 ANh
def ANJ : AE9 := .seq (.seq (.ops [mv_ 40 7,
  po_ 41 (.un .not (.t 40)),
  mv_ 42 41,
  ⟨some 43, .p (.mov (.t 6)), some ⟨42, false⟩⟩,
  ⟨some 44, .p (.bin 34 .neq (.t 43) (ci_ 0)), some ⟨42, false⟩⟩,
  po_ 45 (.pick (.t 42) (.c (.bool true)) (.t 44)),
  mv_ 46 45,
  ⟨some 47, .p (.mov (.t 4)), some ⟨46, false⟩⟩,
  ⟨some 48, .p (.lenV (.t 47)), some ⟨46, false⟩⟩,
  ⟨some 49, .p (.mov (.t 8)), some ⟨46, false⟩⟩,
  ⟨some 50, .p (.lenV (.t 49)), some ⟨46, false⟩⟩,
  ⟨some 51, .p (.bin 3 .neq (.t 48) (.t 50)), some ⟨46, false⟩⟩,
  po_ 52 (.pick (.t 46) (.c (.bool true)) (.t 51))] [4, 8, 52])
 (.cond (.t 52)
 (.seq (.ops [po_ 2 (.mov (.c (.bool false)))] [2])
  (.ret))
 (.skip)))
 AM7
def ANj : AE9 := .seq (.seq (.ops [mv_ 28 9,
  po_ 29 (.un .not (.t 28))] [4, 6, 7, 8, 29])
 (.cond (.t 29)
 ANi
 (.skip)))
 ANJ
def ANP : AE9 := .seq (.ops [mv_ 24 0,
  so_ 25 (.call 54 [.t 24]),
  mv_ 23 25,
  po_ 26 (.ext 0 (.t 23)),
  po_ 27 (.ext 1 (.t 23)),
  mv_ 8 26,
  mv_ 9 27] [4, 6, 7, 8, 9])
 ANj
def AMt : AE9 := .seq (.ops [mv_ 20 3,
  mv_ 21 0,
  so_ 22 (.call 39 [.t 20, .t 21]),
  mv_ 7 22] [0, 4, 6, 7])
 ANP
def AMv : AE9 := .seq (.ops [mv_ 18 5,
  so_ 19 (.call 8 [.t 18]),
  mv_ 6 19] [0, 3, 4, 6])
 AMt
def AMy : AE9 := .seq (.ops [mv_ 14 3,
  so_ 15 (.call 53 [.t 14]),
  mv_ 13 15,
  po_ 16 (.ext 0 (.t 13)),
  po_ 17 (.ext 1 (.t 13)),
  mv_ 4 16,
  mv_ 5 17] [0, 3, 4, 5])
 AMv
def AMq : AE9 := .seq (.ops [mv_ 11 0,
  so_ 12 (.call 37 [.t 11]),
  mv_ 3 12] [0, 3])
 AMy
def ARC : AE9 := .seq (.ops [po_ 2 (.mov (.c (.bool false)))] [0])
 AMq
def ARA : List VR := [.tmp 2]
theorem AWW : Tryz.f20.body.bind (trC Tryz.prog Tryz.f20.ntmps) = some (er ARC) := by kernel_rfl
theorem AWZ : trR Tryz.prog Tryz.f20.results.toList = some ARA := by kernel_rfl
def ASw := AE8 ANi.eq_1
def ASP := AE8 ANp.eq_1
def ALo := AE8 AM3.eq_1
def AST := AE8 ANF.eq_1
def ASb := AE8 ANh.eq_1
def ASz := AE8 AM7.eq_1
def AS3 := AE8 ANJ.eq_1
def ALm := AE8 ANj.eq_1
def ALE := AE8 ANP.eq_1
def AKQ := AE8 AMt.eq_1
def AKt := AE8 AMv.eq_1
def ARV := AE8 AMy.eq_1
def ARN := AE8 AMq.eq_1
def AVh := AE8 ARC.eq_1
theorem AOl {K : TV → Prop} {e : Env} {H : List Ob} : res ARA e H K = res [.tmp 2] e H K := AE7 rfl
def AWd := AH5 96 Tryz.func20 AWW AWZ rfl

def AF4 : AE9 := .seq (.ops [po_ 2 (.mov (.c (.slice none 0 0)))] [0])
 (.seq (.seq (.ops [mv_ 3 0,
  so_ 4 (.eqS (.t 3) false)] [0, 4])
 (.cond (.t 4)
 (.seq (.ops [po_ 2 (.mov (.c (.slice none 0 0)))] [2])
  (.ret))
 (.skip)))
 (.seq (.ops [so_ 5 (.bslice 22 0 (.agg [.val (.int .i64 ((0 : Nat) : Int)), .val (.string (str [])), .arr 20 1 [.val (.int .u8 ((0 : Nat) : Int)), .val (.int .u8 ((0 : Nat) : Int)), .val (.int .u8 ((0 : Nat) : Int)), .val (.int .u8 ((0 : Nat) : Int)), .val (.int .u8 ((0 : Nat) : Int)), .val (.int .u8 ((0 : Nat) : Int)), .val (.int .u8 ((0 : Nat) : Int)), .val (.int .u8 ((0 : Nat) : Int)), .val (.int .u8 ((0 : Nat) : Int)), .val (.int .u8 ((0 : Nat) : Int)), .val (.int .u8 ((0 : Nat) : Int)), .val (.int .u8 ((0 : Nat) : Int)), .val (.int .u8 ((0 : Nat) : Int)), .val (.int .u8 ((0 : Nat) : Int)), .val (.int .u8 ((0 : Nat) : Int)), .val (.int .u8 ((0 : Nat) : Int)), .val (.int .u8 ((0 : Nat) : Int)), .val (.int .u8 ((0 : Nat) : Int)), .val (.int .u8 ((0 : Nat) : Int)), .val (.int .u8 ((0 : Nat) : Int))]]) []),
  mv_ 6 0,
  so_ 7 (.app 22 48 60 (.t 5) (.t 6)),
  mv_ 2 7] [2])
 (.ret)))
def AF2 : List VR := [.tmp 2]
theorem AHK : Tryz.f46.body.bind (trC Tryz.prog Tryz.f46.ntmps) = some (er AF4) := by kernel_rfl
theorem AHM : trR Tryz.prog Tryz.f46.results.toList = some AF2 := by kernel_rfl
def AHw := AE8 AF4.eq_1
theorem AHx {K : TV → Prop} {e : Env} {H : List Ob} : res AF2 e H K = res [.tmp 2] e H K := AE7 rfl
def AFt := (And.intro @AHw @AHx)
def AHB := AH5 8 Tryz.func46 AHK AHM rfl

end Go.Proofs.YtliaddbbmnfioaaGreatDoor


namespace Go.Proofs.YtliaddbbmnfioaaGreatDoor
open Go.RowKit
variable [AFq]
set_option linter.unusedSectionVars false
set_option linter.unusedVariables false
set_option linter.unusedSimpArgs false
set_option autoImplicit false

end Go.Proofs.YtliaddbbmnfioaaGreatDoor


namespace Go.Proofs.YtliaddbbmnfioaaGreatDoor
open Go.RowKit
variable [AFq]
set_option linter.unusedSectionVars false
set_option linter.unusedVariables false
section
variable {t : TypeId} {a b : Nat} {k2 : IntKind}
end
end Go.Proofs.YtliaddbbmnfioaaGreatDoor


namespace Go.Proofs.YtliaddbbmnfioaaGreatDoor
open Go.RowKit
variable [AFq]
set_option linter.unusedSectionVars false
set_option linter.unusedVariables false
section
variable {t : TypeId} {a b : Nat} {k2 : IntKind}
theorem AWe {n : Nat} (h : n < 18446744073709551616) : IntKind.u64.wrap (n : Int) = n := by rw [IntKind.wrap_u64]; omega
theorem A2z (h2 : b ≤ 64) : AHJ t .shr (.int .u64 (a : Int)) (.int k2 (b : Int)) = some (.int .u64 ((a / 2 ^ b : Nat) : Int)) := by
 have e : binOp .shr t (.int .u64 (a : Int)) (.int k2 (b : Int)) = pure (.int .u64 ((a / 2 ^ b : Nat) : Int)) := by
  show Op.shift .shr .u64 a k2 b = _
  unfold Op.shift
  rw [if_neg (by omega)]
  have hm : min ((b : Int)).toNat IntKind.u64.bits = b := by
   have : IntKind.u64.bits = 64 := rfl
   omega
  simp only [hm]
  rw [Int.fdiv_eq_ediv_of_nonneg _ (by exact Int.le_of_lt (Int.pow_pos (by omega)))]
  have e2 : (a : Int) / 2 ^ b = ((a / 2 ^ b : Nat) : Int) := by rw [Int.natCast_ediv, Int.natCast_pow]; rfl
  rw [e2]
 unfold AHJ; rw [e]; rfl
theorem A2b (h1 : a * b < 18446744073709551616) : AHJ t .mul (.int .u64 (a : Int)) (.int .u64 (b : Int)) = some (.int .u64 ((a * b : Nat) : Int)) := by
 rw [show AHJ t .mul (.int .u64 (a : Int)) (.int .u64 (b : Int)) = some (.int .u64 (IntKind.u64.wrap ((a : Int) * (b : Int)))) from rfl, show (a : Int) * (b : Int) = ((a * b : Nat) : Int) from rfl, AWe h1]
theorem A13 (h1 : b ≤ a) (h2 : a < 18446744073709551616) : AHJ t .sub (.int .u64 (a : Int)) (.int .u64 (b : Int)) = some (.int .u64 ((a - b : Nat) : Int)) := by
 rw [show AHJ t .sub (.int .u64 (a : Int)) (.int .u64 (b : Int)) = some (.int .u64 (IntKind.u64.wrap ((a : Int) - (b : Int)))) from rfl, show (a : Int) - (b : Int) = ((a - b : Nat) : Int) from by omega, AWe (by omega)]
theorem A8o (h2 : b ≤ 63) (h4 : a * 2 ^ b < 18446744073709551616) : AHJ t .shl (.int .u64 (a : Int)) (.int k2 (b : Int)) = some (.int .u64 ((a * 2 ^ b : Nat) : Int)) := by
 have e : binOp .shl t (.int .u64 (a : Int)) (.int k2 (b : Int)) = pure (.int .u64 ((a * 2 ^ b : Nat) : Int)) := by
  show Op.shift .shl .u64 a k2 b = _
  unfold Op.shift
  rw [if_neg (by omega)]
  have hm : min ((b : Int)).toNat IntKind.u64.bits = b := by
   have : IntKind.u64.bits = 64 := rfl
   omega
  simp only [hm]
  have e2 : (a : Int) * 2 ^ b = ((a * 2 ^ b : Nat) : Int) := by rw [Int.natCast_mul, Int.natCast_pow]; rfl
  rw [e2, AWe h4]
 unfold AHJ; rw [e]; rfl
end
end Go.Proofs.YtliaddbbmnfioaaGreatDoor


namespace Go.Proofs.YtliaddbbmnfioaaGreatDoor
variable [AFq]
set_option linter.unusedSectionVars false
set_option linter.unusedVariables false
set_option linter.defProp false
set_option maxRecDepth 100000


def AGM : AE9 := .seq (.ops [so_ 7 (.alloc (.arr 24 1 [.val (.int .u8 ((0 : Nat) : Int)), .val (.int .u8 ((0 : Nat) : Int)), .val (.int .u8 ((0 : Nat) : Int)), .val (.int .u8 ((0 : Nat) : Int)), .val (.int .u8 ((0 : Nat) : Int)), .val (.int .u8 ((0 : Nat) : Int)), .val (.int .u8 ((0 : Nat) : Int)), .val (.int .u8 ((0 : Nat) : Int)), .val (.int .u8 ((0 : Nat) : Int)), .val (.int .u8 ((0 : Nat) : Int)), .val (.int .u8 ((0 : Nat) : Int)), .val (.int .u8 ((0 : Nat) : Int)), .val (.int .u8 ((0 : Nat) : Int)), .val (.int .u8 ((0 : Nat) : Int)), .val (.int .u8 ((0 : Nat) : Int)), .val (.int .u8 ((0 : Nat) : Int)), .val (.int .u8 ((0 : Nat) : Int)), .val (.int .u8 ((0 : Nat) : Int)), .val (.int .u8 ((0 : Nat) : Int)), .val (.int .u8 ((0 : Nat) : Int)), .val (.int .u8 ((0 : Nat) : Int)), .val (.int .u8 ((0 : Nat) : Int)), .val (.int .u8 ((0 : Nat) : Int)), .val (.int .u8 ((0 : Nat) : Int))]))] [0, 1, 7])
 (.seq (.ops [mv_ 18 1,
  so_ 19 (.call 127 [.t 18]),
  mv_ 8 19] [0, 1, 7, 8])
 (.seq (.ops [mv_ 20 8,
  po_ 21 (.slA 24 1 (.t 7) none (some (.t 20))),
  mv_ 22 1,
  so_ 23 (.call 128 [.t 21, .t 22])] [0, 7, 8])
 (.seq (.ops [mv_ 24 0,
  mv_ 25 8,
  po_ 26 (.slA 24 1 (.t 7) none (some (.t 25))),
  so_ 27 (.app 1 1 5 (.t 24) (.t 26)),
  mv_ 6 27] [6])
 (.ret))))
def AHi : AE9 := .seq (.seq (.ops [mv_ 11 1,
  po_ 12 (.bin 163 .lss (.t 11) (.c (.int .u64 ((100 : Nat) : Int))))] [0, 1, 12])
 (.cond (.t 12)
 (.seq (.ops [mv_ 13 0,
   mv_ 14 1,
   po_ 15 (.conv .i64 (.t 14)),
   so_ 16 (.call 126 [.t 15]),
   so_ 17 (.appS 5 (.t 13) (.t 16)),
   mv_ 6 17] [6])
  (.ret))
 (.skip)))
 AGM
def AGW : AE9 := .cond (.t 10)
 AHi
 (.skip)
def AGQ : AE9 := .seq (.seq (.ops [mv_ 9 2,
  po_ 10 (.bin 3 .eql (.t 9) (ci_ 10))] [0, 1, 2, 10])
 AGW)
 (.seq (.ops [mv_ 29 0,
  mv_ 30 1,
  mv_ 31 2,
  so_ 32 (.call 129 [.t 29, .t 30, .t 31, .c (.bool false), .c (.bool true)]),
  mv_ 28 32,
  po_ 33 (.ext 0 (.t 28)),
  po_ 34 (.ext 1 (.t 28)),
  mv_ 0 33] [0])
 (.seq (.ops [mv_ 35 0,
  mv_ 6 35] [6])
 (.ret)))
def AHN : AE9 := .seq (.ops [po_ 6 (.mov (.c (.slice none 0 0)))] [0, 1, 2])
 AGQ
def AHH : List VR := [.tmp 6]
theorem AMi : Tryz.f121.body.bind (trC Tryz.prog Tryz.f121.ntmps) = some (er AHN) := by kernel_rfl
theorem AMe : trR Tryz.prog Tryz.f121.results.toList = some AHH := by kernel_rfl
def AJb := AE8 AGM.eq_1
def AI9 := AE8 AHi.eq_1
def AI6 := AE8 AGW.eq_1
def AI2 := AE8 AGQ.eq_1
def ALa := AE8 AHN.eq_1
theorem AK5 {K : TV → Prop} {e : Env} {H : List Ob} : res AHH e H K = res [.tmp 6] e H K := AE7 rfl
def AHL := (And.intro (And.intro (And.intro @AJb @AI9) (And.intro @AI6 @AI2)) (And.intro @ALa @AK5))
def ALK := AH5 36 Tryz.func121 AMi AMe rfl

def AHn : AE9 := .seq (.ops [mv_ 12 0,
  ⟨some 13, .s (.bslice 1 1 (.val (.int .u8 ((0 : Nat) : Int))) [⟨0, .c (.int .u8 ((45 : Nat) : Int))⟩]), none⟩,
  so_ 14 (.app 1 1 5 (.t 12) (.t 13)),
  mv_ 0 14] [0, 2, 7])
 (.ops [mv_ 15 7,
  po_ 16 (.un .neg (.t 15)),
  mv_ 7 16] [0, 2, 7])
def AHr : AE9 := .seq (.seq (.ops [mv_ 10 1,
  po_ 11 (.bin 2 .lss (.t 10) (ci_ 0))] [0, 2, 7, 11])
 (.cond (.t 11)
 AHn
 (.skip)))
 (.seq (.ops [mv_ 17 0,
  mv_ 18 7,
  mv_ 19 2,
  so_ 20 (.call 121 [.t 17, .t 18, .t 19]),
  mv_ 6 20] [6])
 (.ret))
def AHm : AE9 := .seq (.ops [mv_ 8 1,
  po_ 9 (.conv .u64 (.t 8)),
  mv_ 7 9] [0, 1, 2, 7])
 AHr
def AHW : AE9 := .seq (.ops [po_ 6 (.mov (.c (.slice none 0 0)))] [0, 1, 2])
 AHm
def AHU : List VR := [.tmp 6]
theorem AMS : Tryz.f86.body.bind (trC Tryz.prog Tryz.f86.ntmps) = some (er AHW) := by kernel_rfl
theorem AMV : trR Tryz.prog Tryz.f86.results.toList = some AHU := by kernel_rfl
def AJq := AE8 AHn.eq_1
def AJo := AE8 AHr.eq_1
def AJk := AE8 AHm.eq_1
def ALS := AE8 AHW.eq_1
theorem ALM {K : TV → Prop} {e : Env} {H : List Ob} : res AHU e H K = res [.tmp 6] e H K := AE7 rfl
def AHX := (And.intro (And.intro (And.intro @AJq @AJo) (And.intro @AJk @ALS)) @ALM)
def AMg := AH5 21 Tryz.func86 AMS AMV rfl

def AM9 : AE9 := .seq (.ops [po_ 6 (.mov (.c (.slice none 0 0)))] [0, 1, 2])
 (.seq (.ops [mv_ 7 0,
  mv_ 8 1,
  mv_ 9 2,
  so_ 10 (.call 86 [.t 7, .t 8, .t 9]),
  mv_ 6 10] [6])
 (.ret))
def ANO : List VR := [.tmp 6]
theorem AUm : Tryz.f49.body.bind (trC Tryz.prog Tryz.f49.ntmps) = some (er AM9) := by kernel_rfl
theorem ATX : trR Tryz.prog Tryz.f49.results.toList = some ANO := by kernel_rfl
def ASR := AE8 AM9.eq_1
theorem ASh {K : TV → Prop} {e : Env} {H : List Ob} : res ANO e H K = res [.tmp 6] e H K := AE7 rfl
def ANI := (And.intro @ASR @ASh)
def ATg := AH5 11 Tryz.func49 AUm ATX rfl




def AKY : AE9 := .seq (.ops [mv_ 65 0,
  po_ 66 (.lenS (.t 65)),
  po_ 67 (.bin 3 .geq (.t 66) (ci_ 3)),
  mv_ 68 67,
  ⟨some 69, .p (.mov (.t 0)), some ⟨68, true⟩⟩,
  ⟨some 70, .p (.idxS (.t 69) (ci_ 1)), some ⟨68, true⟩⟩,
  ⟨some 71, .s (.call 151 [.t 70]), some ⟨68, true⟩⟩,
  ⟨some 72, .p (.bin 5 .eql (.t 71) (.c (.int .u8 ((120 : Nat) : Int)))), some ⟨68, true⟩⟩,
  po_ 73 (.pick (.t 68) (.t 72) (.c (.bool false))),
  mv_ 64 73] [0, 2, 8, 9, 64])
 (.cond (.t 64)
 (.seq (.ops [po_ 1 (.mov (ci_ 16))] [0, 1, 2, 8, 9])
  (.ops [mv_ 74 0,
   po_ 75 (.slS (.t 74) (some (ci_ 2)) none),
   mv_ 0 75] [0, 1, 2, 8, 9]))
 (.seq (.ops [po_ 1 (.mov (ci_ 8))] [0, 1, 2, 8, 9])
  (.ops [mv_ 38 0,
   po_ 39 (.slS (.t 38) (some (ci_ 1)) none),
   mv_ 0 39] [0, 1, 2, 8, 9])))
def ALg : AE9 := .cond (.t 52)
 (.seq (.ops [po_ 1 (.mov (ci_ 8))] [0, 1, 2, 8, 9])
  (.ops [mv_ 62 0,
   po_ 63 (.slS (.t 62) (some (ci_ 2)) none),
   mv_ 0 63] [0, 1, 2, 8, 9]))
 AKY
def AK2 : AE9 := .seq (.ops [mv_ 53 0,
  po_ 54 (.lenS (.t 53)),
  po_ 55 (.bin 3 .geq (.t 54) (ci_ 3)),
  mv_ 56 55,
  ⟨some 57, .p (.mov (.t 0)), some ⟨56, true⟩⟩,
  ⟨some 58, .p (.idxS (.t 57) (ci_ 1)), some ⟨56, true⟩⟩,
  ⟨some 59, .s (.call 151 [.t 58]), some ⟨56, true⟩⟩,
  ⟨some 60, .p (.bin 5 .eql (.t 59) (.c (.int .u8 ((111 : Nat) : Int)))), some ⟨56, true⟩⟩,
  po_ 61 (.pick (.t 56) (.t 60) (.c (.bool false))),
  mv_ 52 61] [0, 2, 8, 9, 52])
 ALg
def ALh : AE9 := .cond (.t 40)
 (.seq (.ops [po_ 1 (.mov (ci_ 2))] [0, 1, 2, 8, 9])
  (.ops [mv_ 50 0,
   po_ 51 (.slS (.t 50) (some (ci_ 2)) none),
   mv_ 0 51] [0, 1, 2, 8, 9]))
 AK2
def AK6 : AE9 := .block 1 (.seq (.ops [mv_ 41 0,
  po_ 42 (.lenS (.t 41)),
  po_ 43 (.bin 3 .geq (.t 42) (ci_ 3)),
  mv_ 44 43,
  ⟨some 45, .p (.mov (.t 0)), some ⟨44, true⟩⟩,
  ⟨some 46, .p (.idxS (.t 45) (ci_ 1)), some ⟨44, true⟩⟩,
  ⟨some 47, .s (.call 151 [.t 46]), some ⟨44, true⟩⟩,
  ⟨some 48, .p (.bin 5 .eql (.t 47) (.c (.int .u8 ((98 : Nat) : Int)))), some ⟨44, true⟩⟩,
  po_ 49 (.pick (.t 44) (.t 48) (.c (.bool false))),
  mv_ 40 49] [0, 2, 8, 9, 40])
 ALh)
def ALd : AE9 := .cond (.t 37)
 AK6
 (.skip)
def AK7 : AE9 := .seq (.ops [mv_ 35 0,
  po_ 36 (.idxS (.t 35) (ci_ 0)),
  po_ 37 (.bin 5 .eql (.t 36) (.c (.int .u8 ((48 : Nat) : Int))))] [0, 1, 2, 8, 9, 37])
 ALd
def AK0 : AE9 := .seq (.ops [po_ 1 (.mov (ci_ 10))] [0, 1, 2, 8, 9])
 AK7
def AKW : AE9 := .cond (.t 32)
 AK0
 (.seq (.ops [po_ 24 (.iface 228 (ci_ 3)),
   po_ 6 (.mov (.c (.int .u64 ((0 : Nat) : Int)))),
   mv_ 7 24] [6, 7])
  (.ret))
def AKg : AE9 := .seq (.ops [mv_ 33 1,
  po_ 34 (.bin 3 .eql (.t 33) (ci_ 0)),
  mv_ 32 34] [0, 2, 8, 9, 32])
 AKW
def AG0 : AE9 := .cond (.t 25)
 (.skip)
 AKg
def AG2 : AE9 := .seq (.ops [mv_ 78 2,
  po_ 79 (.bin 3 .lss (.t 78) (ci_ 0)),
  mv_ 80 79,
  ⟨some 81, .p (.mov (.t 2)), some ⟨80, false⟩⟩,
  ⟨some 82, .p (.bin 3 .gtr (.t 81) (ci_ 64)), some ⟨80, false⟩⟩,
  po_ 83 (.pick (.t 80) (.c (.bool true)) (.t 82))] [0, 1, 2, 8, 9, 83])
 (.cond (.t 83)
 (.seq (.ops [po_ 84 (.iface 228 (ci_ 4)),
   po_ 6 (.mov (.c (.int .u64 ((0 : Nat) : Int)))),
   mv_ 7 84] [6, 7])
  (.ret))
 (.skip))
def AHc : AE9 := .seq (.ops [po_ 93 (.bin 3 .eql (.t 85) (ci_ 16)),
  mv_ 92 93] [0, 1, 2, 8, 9, 92])
 (.cond (.t 92)
 (.ops [po_ 10 (.mov (.c (.int .u64 ((1152921504606846976 : Nat) : Int))))] [0, 1, 2, 8, 9, 10])
 (.ops [mv_ 86 1,
   po_ 87 (.conv .u64 (.t 86)),
   po_ 88 (.bin 163 .quo (.c (.int .u64 ((18446744073709551615 : Nat) : Int))) (.t 87)),
   po_ 89 (.bin 163 .add (.t 88) (.c (.int .u64 ((1 : Nat) : Int)))),
   mv_ 10 89] [0, 1, 2, 8, 9, 10]))
def AGK : AE9 := .seq (.ops [mv_ 122 15,
  so_ 123 (.call 151 [.t 122]),
  po_ 124 (.bin 5 .leq (.c (.int .u8 ((97 : Nat) : Int))) (.t 123)),
  mv_ 125 124,
  ⟨some 126, .p (.mov (.t 15)), some ⟨125, true⟩⟩,
  ⟨some 127, .s (.call 151 [.t 126]), some ⟨125, true⟩⟩,
  ⟨some 128, .p (.bin 5 .leq (.t 127) (.c (.int .u8 ((122 : Nat) : Int)))), some ⟨125, true⟩⟩,
  po_ 129 (.pick (.t 125) (.t 128) (.c (.bool false))),
  mv_ 121 129] [1, 8, 9, 10, 11, 12, 13, 15, 99, 100, 101, 121])
 (.cond (.t 121)
 (.ops [mv_ 130 15,
   so_ 131 (.call 151 [.t 130]),
   po_ 132 (.bin 5 .sub (.t 131) (.c (.int .u8 ((97 : Nat) : Int)))),
   po_ 133 (.bin 5 .add (.t 132) (.c (.int .u8 ((10 : Nat) : Int)))),
   mv_ 16 133] [1, 8, 9, 10, 11, 12, 13, 16, 99, 100, 101])
 (.seq (.ops [po_ 105 (.iface 228 (ci_ 2)),
   po_ 6 (.mov (.c (.int .u64 ((0 : Nat) : Int)))),
   mv_ 7 105] [6, 7])
  (.ret)))
def AHb : AE9 := .cond (.t 112)
 (.ops [mv_ 119 15,
   po_ 120 (.bin 5 .sub (.t 119) (.c (.int .u8 ((48 : Nat) : Int)))),
   mv_ 16 120] [1, 8, 9, 10, 11, 12, 13, 16, 99, 100, 101])
 AGK
def AGJ : AE9 := .seq (.ops [mv_ 113 15,
  po_ 114 (.bin 5 .leq (.c (.int .u8 ((48 : Nat) : Int))) (.t 113)),
  mv_ 115 114,
  ⟨some 116, .p (.mov (.t 15)), some ⟨115, true⟩⟩,
  ⟨some 117, .p (.bin 5 .leq (.t 116) (.c (.int .u8 ((57 : Nat) : Int)))), some ⟨115, true⟩⟩,
  po_ 118 (.pick (.t 115) (.t 117) (.c (.bool false))),
  mv_ 112 118] [1, 8, 9, 10, 11, 12, 13, 15, 99, 100, 101, 112])
 AHb
def AGE : AE9 := .cond (.t 106)
 (.seq (.ops [po_ 12 (.mov (.c (.bool true)))] [1, 8, 9, 10, 11, 12, 13, 99, 100, 101])
  (.exit 4))
 AGJ
def AHf : AE9 := .seq (.seq (.ops [mv_ 152 17,
  mv_ 153 13,
  po_ 154 (.bin 163 .lss (.t 152) (.t 153)),
  mv_ 155 154,
  ⟨some 156, .p (.mov (.t 17)), some ⟨155, false⟩⟩,
  ⟨some 157, .p (.mov (.t 11)), some ⟨155, false⟩⟩,
  ⟨some 158, .p (.bin 163 .gtr (.t 156) (.t 157)), some ⟨155, false⟩⟩,
  po_ 159 (.pick (.t 155) (.c (.bool true)) (.t 158))] [1, 8, 9, 10, 11, 12, 17, 99, 100, 101, 159])
 (.cond (.t 159)
 (.seq (.ops [mv_ 160 11,
   po_ 161 (.iface 228 (ci_ 1)),
   mv_ 6 160,
   mv_ 7 161] [6, 7])
  (.ret))
 (.skip)))
 (.ops [mv_ 162 17,
  mv_ 13 162] [1, 8, 9, 10, 11, 12, 13, 99, 100, 101])
def AG1 : AE9 := .seq (.ops [mv_ 148 13,
  mv_ 149 16,
  po_ 150 (.conv .u64 (.t 149)),
  po_ 151 (.bin 163 .add (.t 148) (.t 150)),
  mv_ 17 151] [1, 8, 9, 10, 11, 12, 13, 17, 99, 100, 101])
 AHf
def AG5 : AE9 := .seq (.ops [mv_ 144 13,
  mv_ 145 1,
  po_ 146 (.conv .u64 (.t 145)),
  po_ 147 (.bin 163 .mul (.t 144) (.t 146)),
  mv_ 13 147] [1, 8, 9, 10, 11, 12, 13, 16, 99, 100, 101])
 AG1
def AGH : AE9 := .seq (.seq (.ops [mv_ 139 13,
  mv_ 140 10,
  po_ 141 (.bin 163 .geq (.t 139) (.t 140))] [1, 8, 9, 10, 11, 12, 13, 16, 99, 100, 101, 141])
 (.cond (.t 141)
 (.seq (.ops [mv_ 142 11,
   po_ 143 (.iface 228 (ci_ 1)),
   mv_ 6 142,
   mv_ 7 143] [6, 7])
  (.ret))
 (.skip)))
 AG5
def AGO : AE9 := .seq (.seq (.ops [mv_ 134 16,
  mv_ 135 1,
  po_ 136 (.conv .u8 (.t 135)),
  po_ 137 (.bin 5 .geq (.t 134) (.t 136))] [1, 8, 9, 10, 11, 12, 13, 16, 99, 100, 101, 137])
 (.cond (.t 137)
 (.seq (.ops [po_ 138 (.iface 228 (ci_ 2)),
   po_ 6 (.mov (.c (.int .u64 ((0 : Nat) : Int)))),
   mv_ 7 138] [6, 7])
  (.ret))
 (.skip)))
 AGH
def AGP : AE9 := .seq (.block 5 (.seq (.ops [mv_ 107 15,
  po_ 108 (.bin 5 .eql (.t 107) (.c (.int .u8 ((95 : Nat) : Int)))),
  mv_ 109 108,
  ⟨some 110, .p (.mov (.t 8)), some ⟨109, true⟩⟩,
  po_ 111 (.pick (.t 109) (.t 110) (.c (.bool false))),
  mv_ 106 111] [1, 8, 9, 10, 11, 12, 13, 15, 99, 100, 101, 106])
 AGE))
 AGO
def AGL : AE9 := .seq (.ops [po_ 16 (.mov (.c (.int .u8 ((0 : Nat) : Int))))] [1, 8, 9, 10, 11, 12, 13, 15, 99, 100, 101])
 AGP
def AGF : AE9 := .seq (.block 4 (.seq (.ops [po_ 103 (.idxA 1 (.t 99) (.t 101)),
  po_ 104 (.load false 1 (.t 103)),
  mv_ 15 104] [1, 8, 9, 10, 11, 12, 13, 15, 99, 100, 101])
 AGL))
 (.ops [po_ 163 (.bin 3 .add (.t 101) (ci_ 1)),
  mv_ 101 163] [1, 8, 9, 10, 11, 12, 13, 99, 100, 101])
def AG3 : AE9 := .seq (.cond (.t 102)
 (.skip)
 (.exit 3))
 AGF
def AG7 : AE9 := .seq (.ops [po_ 102 (.bin 3 .lss (.t 101) (.t 100))] [1, 8, 9, 10, 11, 12, 13, 99, 100, 101, 102])
 AG3
def AHh : AE9 := .block 3 (.loop [1, 8, 9, 10, 11, 12, 13, 99, 100, 101] AG7)
def AGI : AE9 := .seq (.seq (.ops [mv_ 164 12,
  mv_ 165 164,
  ⟨some 166, .p (.mov (.t 9)), some ⟨165, true⟩⟩,
  ⟨some 167, .s (.call 152 [.t 166]), some ⟨165, true⟩⟩,
  ⟨some 168, .p (.un .not (.t 167)), some ⟨165, true⟩⟩,
  po_ 169 (.pick (.t 165) (.t 168) (.c (.bool false)))] [13, 169])
 (.cond (.t 169)
 (.seq (.ops [po_ 170 (.iface 228 (ci_ 2)),
   po_ 6 (.mov (.c (.int .u64 ((0 : Nat) : Int)))),
   mv_ 7 170] [6, 7])
  (.ret))
 (.skip)))
 (.seq (.ops [mv_ 171 13,
  mv_ 6 171,
  po_ 7 (.mov (.c .nilIface))] [6, 7])
 (.ret))
def AG6 : AE9 := .seq (.seq (.ops [mv_ 98 0,
  so_ 99 (.s2b (.t 98)),
  po_ 100 (.lenV (.t 99)),
  po_ 101 (.mov (ci_ 0))] [1, 8, 9, 10, 11, 12, 13, 99, 100, 101])
 AHh)
 AGI
def AGX : AE9 := .seq (.ops [po_ 13 (.mov (.c (.int .u64 ((0 : Nat) : Int))))] [0, 1, 8, 9, 10, 11, 12, 13])
 AG6
def AGG : AE9 := .seq (.ops [po_ 12 (.mov (.c (.bool false)))] [0, 1, 8, 9, 10, 11, 12])
 AGX
def AG9 : AE9 := .seq (.ops [mv_ 94 2,
  po_ 95 (.conv .u64 (.t 94)),
  po_ 96 (.bin 163 .shl (.c (.int .u64 ((1 : Nat) : Int))) (.t 95)),
  po_ 97 (.bin 163 .sub (.t 96) (.c (.int .u64 ((1 : Nat) : Int)))),
  mv_ 11 97] [0, 1, 8, 9, 10, 11])
 AGG
def AGY : AE9 := .seq (.seq (.ops [mv_ 85 1] [0, 1, 2, 8, 9, 85])
 (.block 2 (.seq (.ops [po_ 91 (.bin 3 .eql (.t 85) (ci_ 10)),
  mv_ 90 91] [0, 1, 2, 8, 9, 85, 90])
 (.cond (.t 90)
 (.ops [po_ 10 (.mov (.c (.int .u64 ((1844674407370955162 : Nat) : Int))))] [0, 1, 2, 8, 9, 10])
 AHc))))
 AG9
def AGT : AE9 := .seq (.ops [po_ 10 (.mov (.c (.int .u64 ((0 : Nat) : Int))))] [0, 1, 2, 8, 9])
 AGY
def AGR : AE9 := .seq (.seq (.ops [mv_ 76 2,
  po_ 77 (.bin 3 .eql (.t 76) (ci_ 0))] [0, 1, 2, 8, 9, 77])
 (.cond (.t 77)
 (.ops [po_ 2 (.mov (ci_ 64))] [0, 1, 2, 8, 9])
 AG2))
 AGT
def AHg : AE9 := .seq (.block 0 (.seq (.ops [mv_ 26 1,
  po_ 27 (.bin 3 .leq (ci_ 2) (.t 26)),
  mv_ 28 27,
  ⟨some 29, .p (.mov (.t 1)), some ⟨28, true⟩⟩,
  ⟨some 30, .p (.bin 3 .leq (.t 29) (ci_ 36)), some ⟨28, true⟩⟩,
  po_ 31 (.pick (.t 28) (.t 30) (.c (.bool false))),
  mv_ 25 31] [0, 1, 2, 8, 9, 25])
 AG0))
 AGR
def AG4 : AE9 := .seq (.ops [mv_ 23 0,
  mv_ 9 23] [0, 1, 2, 8, 9])
 AHg
def AHj : AE9 := .seq (.ops [mv_ 21 1,
  po_ 22 (.bin 3 .eql (.t 21) (ci_ 0)),
  mv_ 8 22] [0, 1, 2, 8])
 AG4
def AHd : AE9 := .seq (.seq (.ops [mv_ 18 0,
  po_ 19 (.bin 9 .eql (.t 18) (.c (.string (str []))))] [0, 1, 2, 19])
 (.cond (.t 19)
 (.seq (.ops [po_ 20 (.iface 228 (ci_ 2)),
   po_ 6 (.mov (.c (.int .u64 ((0 : Nat) : Int)))),
   mv_ 7 20] [6, 7])
  (.ret))
 (.skip)))
 AHj
def AHS : AE9 := .seq (.ops [po_ 6 (.mov (.c (.int .u64 ((0 : Nat) : Int)))),
  po_ 7 (.mov (.c .nilIface))] [0, 1, 2])
 AHd
def AHT : List VR := [.tmp 6, .tmp 7]
theorem AMX : Tryz.f123.body.bind (trC Tryz.prog Tryz.f123.ntmps) = some (er AHS) := by kernel_rfl
theorem AMQ : trR Tryz.prog Tryz.f123.results.toList = some AHT := by kernel_rfl
def AIZ := AE8 AG0.eq_1
def AIS := AE8 AG2.eq_1
def AIM := AE8 AHc.eq_1
def AFX := AE8 AGK.eq_1
def AFw := AE8 AHb.eq_1
def AFH := AE8 AGJ.eq_1
def AFJ := AE8 AGE.eq_1
def AI1 := AE8 AHf.eq_1
def AIP := AE8 AG1.eq_1
def AIK := AE8 AG5.eq_1
def AI3 := AE8 AGH.eq_1
def AFI := AE8 AGO.eq_1
def AFL := AE8 AGP.eq_1
def AFM := AE8 AGL.eq_1
def AFK := AE8 AGF.eq_1
def AFx := AE8 AG3.eq_1
def AFv := AE8 AG7.eq_1
def AI7 := AE8 AHh.eq_1
def AIN := AE8 AGI.eq_1
def AIQ := AE8 AG6.eq_1
def AIW := AE8 AGX.eq_1
def AIU := AE8 AGG.eq_1
def AIO := AE8 AG9.eq_1
def AIJ := AE8 AGY.eq_1
def AI5 := AE8 AGT.eq_1
def AIY := AE8 AGR.eq_1
def AIT := AE8 AHg.eq_1
def AIV := AE8 AG4.eq_1
def AI0 := AE8 AHj.eq_1
def AGl := AE8 AHd.eq_1
def AHA := AE8 AHS.eq_1
theorem AFh {K : TV → Prop} {e : Env} {H : List Ob} : res AHT e H K = res [.tmp 6, .tmp 7] e H K := AE7 rfl
def AMf := AH5 172 Tryz.func123 AMX AMQ rfl

def AIG : AE9 := .seq (.ops [po_ 2 (.mov (.c (.int .u8 ((0 : Nat) : Int))))] [0])
 (.seq (.ops [mv_ 3 0,
  po_ 4 (.bin 5 .or (.t 3) (.c (.int .u8 ((32 : Nat) : Int)))),
  mv_ 2 4] [2])
 (.ret))
def AII : List VR := [.tmp 2]
theorem APf : Tryz.f151.body.bind (trC Tryz.prog Tryz.f151.ntmps) = some (er AIG) := by kernel_rfl
theorem AQo : trR Tryz.prog Tryz.f151.results.toList = some AII := by kernel_rfl
def ANW := AE8 AIG.eq_1
theorem ANV {K : TV → Prop} {e : Env} {H : List Ob} : res AII e H K = res [.tmp 2] e H K := AE7 rfl
def AP6 := (And.intro @ANW @ANV)
def AO8 := AH5 5 Tryz.func151 APf AQo rfl

def AKp : AE9 := .seq (.ops [mv_ 19 8,
  mv_ 20 0,
  mv_ 21 1,
  mv_ 22 2,
  mv_ 23 9,
  so_ 24 (.call 124 [.c (.string (str [80, 97, 114, 115, 101, 85, 105, 110, 116])), .t 20, .t 21, .t 22, .t 23]),
  mv_ 6 19,
  mv_ 7 24] [6, 7])
 (.ret)
def AKy : AE9 := .seq (.seq (.ops [mv_ 17 9,
  po_ 18 (.eqN 1 (.t 17) (.c .nilIface) true)] [0, 1, 2, 8, 9, 18])
 (.cond (.t 18)
 AKp
 (.skip)))
 (.seq (.ops [mv_ 25 8,
  mv_ 6 25,
  po_ 7 (.mov (.c .nilIface))] [6, 7])
 (.ret))
def AKx : AE9 := .seq (.ops [mv_ 11 0,
  mv_ 12 1,
  mv_ 13 2,
  so_ 14 (.call 123 [.t 11, .t 12, .t 13]),
  mv_ 10 14,
  po_ 15 (.ext 0 (.t 10)),
  po_ 16 (.ext 1 (.t 10)),
  mv_ 8 15,
  mv_ 9 16] [0, 1, 2, 8, 9])
 AKy
def ANz : AE9 := .seq (.ops [po_ 6 (.mov (.c (.int .u64 ((0 : Nat) : Int)))),
  po_ 7 (.mov (.c .nilIface))] [0, 1, 2])
 AKx
def AM8 : List VR := [.tmp 6, .tmp 7]
theorem AUx : Tryz.f89.body.bind (trC Tryz.prog Tryz.f89.ntmps) = some (er ANz) := by kernel_rfl
theorem AUF : trR Tryz.prog Tryz.f89.results.toList = some AM8 := by kernel_rfl
def AQq := AE8 AKp.eq_1
def APq := AE8 AKy.eq_1
def APk := AE8 AKx.eq_1
def ASS := AE8 ANz.eq_1
theorem ASJ {K : TV → Prop} {e : Env} {H : List Ob} : res AM8 e H K = res [.tmp 6, .tmp 7] e H K := AE7 rfl
def AHD := (And.intro (And.intro (And.intro @AQq @APq) (And.intro @APk @ASS)) @ASJ)
def ATi := AH5 26 Tryz.func89 AUx AUF rfl


end Go.Proofs.YtliaddbbmnfioaaGreatDoor


namespace Go.Proofs.YtliaddbbmnfioaaGreatDoor
open Go.RowKit
variable [AFq]
set_option linter.unusedSectionVars false
set_option linter.unusedVariables false
set_option linter.unusedSimpArgs false

end Go.Proofs.YtliaddbbmnfioaaGreatDoor


namespace Go.Proofs.YtliaddbbmnfioaaGreatDoor
open Go.RowKit
variable [AFq]
set_option linter.unusedSectionVars false
set_option linter.unusedVariables false
set_option linter.unusedSimpArgs false

variable [AFi]
end Go.Proofs.YtliaddbbmnfioaaGreatDoor


namespace Go.Proofs.YtliaddbbmnfioaaGreatDoor
variable [AFq]
set_option linter.unusedSectionVars false
set_option linter.unusedVariables false
set_option linter.defProp false
set_option maxRecDepth 100000






def ATF : AE9 := .seq (.draw 5 [mv_ 13 0,
  mv_ 14 7,
  po_ 15 (.slV 1 (.t 13) none (some (.t 14))),
  mv_ 16 0,
  mv_ 17 7,
  mv_ 18 1,
  po_ 19 (.lenV (.t 18)),
  po_ 20 (.bin 3 .add (.t 17) (.t 19)),
  po_ 21 (.slV 1 (.t 16) (some (.t 20)) none),
  mv_ 4 15,
  mv_ 5 21,
  po_ 6 (.mov (.c (.bool true)))] [4, 5, 6])
 (.ret)
def ATG : AE9 := .seq (.ops [mv_ 11 7,
  po_ 12 (.bin 3 .geq (.t 11) (ci_ 0))] [0, 1, 7, 12])
 (.cond (.t 12)
 ATF
 (.skip))
def ATB : AE9 := .seq (.seq (.ops [mv_ 8 0,
  mv_ 9 1,
  so_ 10 (.call 122 [.t 8, .t 9]),
  mv_ 7 10] [0, 1, 7])
 ATG)
 (.seq (.ops [mv_ 22 0,
  mv_ 4 22,
  po_ 5 (.mov (.c (.slice none 0 0))),
  po_ 6 (.mov (.c (.bool false)))] [4, 5, 6])
 (.ret))
def AXP : AE9 := .seq (.ops [po_ 4 (.mov (.c (.slice none 0 0))),
  po_ 5 (.mov (.c (.slice none 0 0))),
  po_ 6 (.mov (.c (.bool false)))] [0, 1])
 ATB
def AXt : List VR := [.tmp 4, .tmp 5, .tmp 6]
theorem A1V : Tryz.f88.body.bind (trC Tryz.prog Tryz.f88.ntmps) = some (er AXP) := by kernel_rfl
theorem A1a : trR Tryz.prog Tryz.f88.results.toList = some AXt := by kernel_rfl
def AWU := AE8 ATF.eq_1
def AWY := AE8 ATG.eq_1
def AXb := AE8 ATB.eq_1
def AYU := AE8 AXP.eq_1
theorem AZr {K : TV → Prop} {e : Env} {H : List Ob} : res AXt e H K = res [.tmp 4, .tmp 5, .tmp 6] e H K := AE7 rfl
def AUu := (And.intro (And.intro (And.intro @AWU @AWY) (And.intro @AXb @AYU)) @AZr)
def A0B := AH5 23 Tryz.func88 A1V A1a rfl


def ARI : AE9 := .seq (.ops [mv_ 76 0,
  mv_ 77 8,
  po_ 78 (.bin 3 .add (.t 77) (ci_ 1)),
  mv_ 79 9,
  po_ 80 (.slV 1 (.t 76) (some (.t 78)) (some (.t 79))),
  mv_ 81 6,
  so_ 82 (.call 146 [.t 80, .t 81]),
  mv_ 11 82] [0, 1, 5, 6, 7, 8, 9, 10, 11, 12])
 (.seq (.seq (.ops [mv_ 83 11,
  po_ 84 (.bin 3 .lss (.t 83) (ci_ 0))] [0, 1, 5, 6, 7, 8, 9, 10, 11, 12, 84])
 (.cond (.t 84)
 (.seq (.ops [po_ 4 (.mov (.c (.int .i64 (-1))))] [4])
  (.ret))
 (.skip)))
 (.ops [mv_ 85 8,
  mv_ 86 11,
  po_ 87 (.bin 3 .add (.t 86) (ci_ 1)),
  po_ 88 (.bin 3 .add (.t 85) (.t 87)),
  mv_ 8 88] [0, 1, 5, 6, 7, 8, 9, 10, 12]))
def ARy : AE9 := .cond (.t 75)
 ARI
 (.skip)
def ARt : AE9 := .seq (.dead)
 (.seq (.seq (.ops [mv_ 120 12,
  po_ 121 (.bin 3 .geq (.t 120) (ci_ 0))] [8, 12, 121])
 (.cond (.t 121)
 (.seq (.ops [mv_ 122 12,
   mv_ 123 8,
   po_ 124 (.bin 3 .add (.t 122) (.t 123)),
   mv_ 4 124] [4])
  (.ret))
 (.skip)))
 (.seq (.ops [po_ 4 (.mov (.c (.int .i64 (-1))))] [4])
 (.ret)))
def ARz : AE9 := .seq (.ops [mv_ 109 8,
  po_ 110 (.bin 3 .add (.t 109) (ci_ 1)),
  mv_ 8 110] [0, 1, 5, 6, 7, 8, 9, 10, 12])
 (.seq (.ops [mv_ 111 10,
  mv_ 112 8,
  so_ 113 (.call 149 [.t 112]),
  po_ 114 (.bin 3 .gtr (.t 111) (.t 113))] [0, 1, 5, 6, 7, 8, 9, 10, 12, 114])
 (.cond (.t 114)
 ARt
 (.skip)))
def ARH : AE9 := .seq (.ops [mv_ 107 10,
  po_ 108 (.bin 3 .add (.t 107) (ci_ 1)),
  mv_ 10 108] [0, 1, 5, 6, 7, 8, 9, 10, 12])
 ARz
def ARJ : AE9 := .seq (.seq (.ops [mv_ 89 0,
  mv_ 90 8,
  po_ 91 (.bin 3 .add (.t 90) (ci_ 1)),
  po_ 92 (.idxA 1 (.t 89) (.t 91)),
  po_ 93 (.load false 1 (.t 92)),
  mv_ 94 7,
  po_ 95 (.bin 5 .eql (.t 93) (.t 94)),
  mv_ 96 95,
  ⟨some 97, .p (.mov (.t 0)), some ⟨96, true⟩⟩,
  ⟨some 98, .p (.mov (.t 8)), some ⟨96, true⟩⟩,
  ⟨some 99, .p (.mov (.t 8)), some ⟨96, true⟩⟩,
  ⟨some 100, .p (.mov (.t 5)), some ⟨96, true⟩⟩,
  ⟨some 101, .p (.bin 3 .add (.t 99) (.t 100)), some ⟨96, true⟩⟩,
  ⟨some 102, .p (.slV 1 (.t 97) (some (.t 98)) (some (.t 101))), some ⟨96, true⟩⟩,
  ⟨some 103, .p (.mov (.t 1)), some ⟨96, true⟩⟩,
  ⟨some 104, .s (.call 147 [.t 102, .t 103]), some ⟨96, true⟩⟩,
  po_ 105 (.pick (.t 96) (.t 104) (.c (.bool false)))] [0, 1, 5, 6, 7, 8, 9, 10, 12, 105])
 (.cond (.t 105)
 (.seq (.ops [mv_ 106 8,
   mv_ 4 106] [4])
  (.ret))
 (.skip)))
 ARH
def ARD : AE9 := .block 2 (.seq (.seq (.ops [mv_ 70 0,
  mv_ 71 8,
  po_ 72 (.idxA 1 (.t 70) (.t 71)),
  po_ 73 (.load false 1 (.t 72)),
  mv_ 74 6,
  po_ 75 (.bin 5 .neq (.t 73) (.t 74))] [0, 1, 5, 6, 7, 8, 9, 10, 12, 75])
 ARy)
 ARJ)
def ARh : AE9 := .seq (.seq (.ops [mv_ 67 8,
  mv_ 68 9,
  po_ 69 (.bin 3 .lss (.t 67) (.t 68))] [0, 1, 5, 6, 7, 8, 9, 10, 12, 69])
 (.cond (.t 69)
 (.skip)
 (.exit 1)))
 ARD
def ARv : AE9 := .seq (.ops [po_ 4 (.mov (.c (.int .i64 (-1))))] [4])
 (.ret)
def APm : AE9 := .seq (.block 1 (.loop [0, 1, 5, 6, 7, 8, 9, 10, 12] ARh))
 ARv
def APn : AE9 := .seq (.ops [po_ 10 (.mov (ci_ 0))] [0, 1, 5, 6, 7, 8, 9, 10, 12])
 APm
def APN : AE9 := .seq (.ops [mv_ 62 0,
  po_ 63 (.lenV (.t 62)),
  mv_ 64 5,
  po_ 65 (.bin 3 .sub (.t 63) (.t 64)),
  po_ 66 (.bin 3 .add (.t 65) (ci_ 1)),
  mv_ 9 66] [0, 1, 5, 6, 7, 8, 9, 12])
 APn
def API : AE9 := .seq (.ops [po_ 8 (.mov (ci_ 0))] [0, 1, 5, 6, 7, 8, 12])
 APN
def AQm : AE9 := .seq (.ops [mv_ 59 1,
  po_ 60 (.idxA 1 (.t 59) (ci_ 1)),
  po_ 61 (.load false 1 (.t 60)),
  mv_ 7 61] [0, 1, 5, 6, 7, 12])
 API
def APo : AE9 := .seq (.ops [mv_ 56 1,
  po_ 57 (.idxA 1 (.t 56) (ci_ 0)),
  po_ 58 (.load false 1 (.t 57)),
  mv_ 6 58] [0, 1, 5, 6, 12])
 AQm
def APc : AE9 := .seq (.seq (.ops [mv_ 50 0,
  po_ 51 (.lenV (.t 50)),
  po_ 52 (.bin 3 .leq (.t 51) (ci_ 64))] [0, 1, 4, 5, 12, 52])
 (.cond (.t 52)
 (.seq (.dead)
  (.ret))
 (.skip)))
 APo
def APB : AE9 := .cond (.t 46)
 APc
 (.skip)
def AP3 : AE9 := .seq (.ops [mv_ 47 5,
  po_ 48 (.load false 1 (.g 2)),
  po_ 49 (.bin 3 .leq (.t 47) (.t 48)),
  mv_ 46 49] [0, 1, 4, 5, 12, 46])
 APB
def AP4 : AE9 := .cond (.t 41)
 (.seq (.ops [po_ 4 (.mov (.c (.int .i64 (-1))))] [4])
  (.ret))
 AP3
def APd : AE9 := .seq (.ops [mv_ 42 5,
  mv_ 43 0,
  po_ 44 (.lenV (.t 43)),
  po_ 45 (.bin 3 .gtr (.t 42) (.t 44)),
  mv_ 41 45] [0, 1, 4, 5, 12, 41])
 AP4
def AQu : AE9 := .cond (.t 33)
 (.seq (.seq (.ops [mv_ 38 1,
   mv_ 39 0,
   so_ 40 (.call 147 [.t 38, .t 39])] [40])
  (.cond (.t 40)
  (.seq (.ops [po_ 4 (.mov (ci_ 0))] [4])
   (.ret))
  (.skip)))
  (.seq (.ops [po_ 4 (.mov (.c (.int .i64 (-1))))] [4])
  (.ret)))
 APd
def AQv : AE9 := .seq (.ops [mv_ 34 5,
  mv_ 35 0,
  po_ 36 (.lenV (.t 35)),
  po_ 37 (.bin 3 .eql (.t 34) (.t 36)),
  mv_ 33 37] [0, 1, 4, 5, 12, 33])
 AQu
def APJ : AE9 := .cond (.t 25)
 (.seq (.ops [mv_ 28 0,
   mv_ 29 1,
   po_ 30 (.idxA 1 (.t 29) (ci_ 0)),
   po_ 31 (.load false 1 (.t 30)),
   so_ 32 (.call 146 [.t 28, .t 31]),
   mv_ 4 32] [4])
  (.ret))
 AQv
def AP8 : AE9 := .seq (.ops [mv_ 26 5,
  po_ 27 (.bin 3 .eql (.t 26) (ci_ 1)),
  mv_ 25 27] [0, 1, 4, 5, 12, 25])
 APJ
def APE : AE9 := .cond (.t 22)
 (.seq (.ops [po_ 4 (.mov (ci_ 0))] [4])
  (.ret))
 AP8
def APt : AE9 := .seq (.ops [mv_ 145 0,
  mv_ 146 15,
  po_ 147 (.bin 3 .add (.t 146) (ci_ 1)),
  mv_ 148 17,
  po_ 149 (.slV 1 (.t 145) (some (.t 147)) (some (.t 148))),
  mv_ 150 13,
  so_ 151 (.call 146 [.t 149, .t 150]),
  mv_ 18 151] [0, 1, 5, 13, 14, 15, 16, 17, 18])
 (.seq (.seq (.ops [mv_ 152 18,
  po_ 153 (.bin 3 .lss (.t 152) (ci_ 0))] [0, 1, 5, 13, 14, 15, 16, 17, 18, 153])
 (.cond (.t 153)
 (.exit 3)
 (.skip)))
 (.ops [mv_ 154 15,
  mv_ 155 18,
  po_ 156 (.bin 3 .add (.t 155) (ci_ 1)),
  po_ 157 (.bin 3 .add (.t 154) (.t 156)),
  mv_ 15 157] [0, 1, 5, 13, 14, 15, 16, 17]))
def APH : AE9 := .cond (.t 144)
 APt
 (.skip)
def AQa : AE9 := .seq (.ops [mv_ 190 0,
  mv_ 191 15,
  po_ 192 (.slV 1 (.t 190) (some (.t 191)) none),
  mv_ 193 1,
  so_ 194 (.call 150 [.t 192, .t 193]),
  mv_ 19 194] [15, 19])
 (.seq (.seq (.ops [mv_ 195 19,
  po_ 196 (.bin 3 .lss (.t 195) (ci_ 0))] [15, 19, 196])
 (.cond (.t 196)
 (.seq (.ops [po_ 4 (.mov (.c (.int .i64 (-1))))] [4])
  (.ret))
 (.skip)))
 (.seq (.ops [mv_ 197 15,
  mv_ 198 19,
  po_ 199 (.bin 3 .add (.t 197) (.t 198)),
  mv_ 4 199] [4])
 (.ret)))
def AQk : AE9 := .cond (.t 189)
 AQa
 (.skip)
def AQD : AE9 := .seq (.ops [mv_ 180 16,
  mv_ 181 15,
  po_ 182 (.bin 3 .shr (.t 181) (.c (.int .u64 ((4 : Nat) : Int)))),
  po_ 183 (.bin 3 .add (ci_ 4) (.t 182)),
  po_ 184 (.bin 3 .geq (.t 180) (.t 183)),
  mv_ 185 184,
  ⟨some 186, .p (.mov (.t 15)), some ⟨185, true⟩⟩,
  ⟨some 187, .p (.mov (.t 17)), some ⟨185, true⟩⟩,
  ⟨some 188, .p (.bin 3 .lss (.t 186) (.t 187)), some ⟨185, true⟩⟩,
  po_ 189 (.pick (.t 185) (.t 188) (.c (.bool false)))] [0, 1, 5, 13, 14, 15, 16, 17, 189])
 AQk
def AQC : AE9 := .seq (.ops [mv_ 178 16,
  po_ 179 (.bin 3 .add (.t 178) (ci_ 1)),
  mv_ 16 179] [0, 1, 5, 13, 14, 15, 16, 17])
 AQD
def AQj : AE9 := .seq (.ops [mv_ 176 15,
  po_ 177 (.bin 3 .add (.t 176) (ci_ 1)),
  mv_ 15 177] [0, 1, 5, 13, 14, 15, 16, 17])
 AQC
def AQy : AE9 := .seq (.seq (.ops [mv_ 158 0,
  mv_ 159 15,
  po_ 160 (.bin 3 .add (.t 159) (ci_ 1)),
  po_ 161 (.idxA 1 (.t 158) (.t 160)),
  po_ 162 (.load false 1 (.t 161)),
  mv_ 163 14,
  po_ 164 (.bin 5 .eql (.t 162) (.t 163)),
  mv_ 165 164,
  ⟨some 166, .p (.mov (.t 0)), some ⟨165, true⟩⟩,
  ⟨some 167, .p (.mov (.t 15)), some ⟨165, true⟩⟩,
  ⟨some 168, .p (.mov (.t 15)), some ⟨165, true⟩⟩,
  ⟨some 169, .p (.mov (.t 5)), some ⟨165, true⟩⟩,
  ⟨some 170, .p (.bin 3 .add (.t 168) (.t 169)), some ⟨165, true⟩⟩,
  ⟨some 171, .p (.slV 1 (.t 166) (some (.t 167)) (some (.t 170))), some ⟨165, true⟩⟩,
  ⟨some 172, .p (.mov (.t 1)), some ⟨165, true⟩⟩,
  ⟨some 173, .s (.call 147 [.t 171, .t 172]), some ⟨165, true⟩⟩,
  po_ 174 (.pick (.t 165) (.t 173) (.c (.bool false)))] [0, 1, 5, 13, 14, 15, 16, 17, 174])
 (.cond (.t 174)
 (.seq (.ops [mv_ 175 15,
   mv_ 4 175] [4])
  (.ret))
 (.skip)))
 AQj
def APY : AE9 := .block 4 (.seq (.seq (.ops [mv_ 139 0,
  mv_ 140 15,
  po_ 141 (.idxA 1 (.t 139) (.t 140)),
  po_ 142 (.load false 1 (.t 141)),
  mv_ 143 13,
  po_ 144 (.bin 5 .neq (.t 142) (.t 143))] [0, 1, 5, 13, 14, 15, 16, 17, 144])
 APH)
 AQy)
def APr : AE9 := .seq (.seq (.ops [mv_ 136 15,
  mv_ 137 17,
  po_ 138 (.bin 3 .lss (.t 136) (.t 137))] [0, 1, 5, 13, 14, 15, 16, 17, 138])
 (.cond (.t 138)
 (.skip)
 (.exit 3)))
 APY
def AQA : AE9 := .seq (.ops [po_ 4 (.mov (.c (.int .i64 (-1))))] [4])
 (.ret)
def APl : AE9 := .seq (.block 3 (.loop [0, 1, 5, 13, 14, 15, 16, 17] APr))
 AQA
def APy : AE9 := .seq (.ops [mv_ 131 0,
  po_ 132 (.lenV (.t 131)),
  mv_ 133 5,
  po_ 134 (.bin 3 .sub (.t 132) (.t 133)),
  po_ 135 (.bin 3 .add (.t 134) (ci_ 1)),
  mv_ 17 135] [0, 1, 5, 13, 14, 15, 16, 17])
 APl
def APL : AE9 := .seq (.ops [po_ 16 (.mov (ci_ 0))] [0, 1, 5, 13, 14, 15, 16])
 APy
def APR : AE9 := .seq (.ops [po_ 15 (.mov (ci_ 0))] [0, 1, 5, 13, 14, 15])
 APL
def APv : AE9 := .seq (.ops [mv_ 128 1,
  po_ 129 (.idxA 1 (.t 128) (ci_ 1)),
  po_ 130 (.load false 1 (.t 129)),
  mv_ 14 130] [0, 1, 5, 13, 14])
 APR
def APG : AE9 := .seq (.ops [mv_ 125 1,
  po_ 126 (.idxA 1 (.t 125) (ci_ 0)),
  po_ 127 (.load false 1 (.t 126)),
  mv_ 13 127] [0, 1, 5, 13])
 APv
def AP9 : AE9 := .seq (.block 0 (.seq (.ops [mv_ 23 5,
  po_ 24 (.bin 3 .eql (.t 23) (ci_ 0)),
  mv_ 22 24] [0, 1, 4, 5, 12, 22])
 APE))
 APG
def AQd : AE9 := .seq (.ops [mv_ 20 1,
  po_ 21 (.lenV (.t 20)),
  mv_ 5 21] [0, 1, 4, 5, 12])
 AP9
def AUX : AE9 := .seq (.ops [po_ 4 (.mov (ci_ 0))] [0, 1, 4, 12])
 AQd
def AVD : List VR := [.tmp 4]
theorem AYX : Tryz.f122.body.bind (trC Tryz.prog Tryz.f122.ntmps) = some (er AUX) := by kernel_rfl
theorem AY5 : trR Tryz.prog Tryz.f122.results.toList = some AVD := by kernel_rfl
def AVk := AE8 ARI.eq_1
def AU1 := AE8 ARy.eq_1
def AVM := AE8 ARt.eq_1
def AVI := AE8 ARz.eq_1
def AVK := AE8 ARH.eq_1
def AU4 := AE8 ARJ.eq_1
def AVJ := AE8 ARD.eq_1
def AVf := AE8 ARh.eq_1
def AVb := AE8 ARv.eq_1
def AUf := AE8 APm.eq_1
def AUd := AE8 APn.eq_1
def AUr := AE8 APN.eq_1
def AUK := AE8 API.eq_1
def AUD := AE8 AQm.eq_1
def AUE := AE8 APo.eq_1
def AUv := AE8 APc.eq_1
def ATY := AE8 APB.eq_1
def AUM := AE8 AP3.eq_1
def AUC := AE8 AP4.eq_1
def AUy := AE8 APd.eq_1
def AT9 := AE8 AQu.eq_1
def ATW := AE8 AQv.eq_1
def ATT := AE8 APJ.eq_1
def AUi := AE8 AP8.eq_1
def AUG := AE8 APE.eq_1
def AUt := AE8 APt.eq_1
def AUp := AE8 APH.eq_1
def AUs := AE8 AQa.eq_1
def AUh := AE8 AQk.eq_1
def ATP := AE8 AQD.eq_1
def ATN := AE8 AQC.eq_1
def AUR := AE8 AQj.eq_1
def AUl := AE8 AQy.eq_1
def AUc := AE8 APY.eq_1
def ATS := AE8 APr.eq_1
def AUk := AE8 AQA.eq_1
def AT2 := AE8 APl.eq_1
def AUS := AE8 APy.eq_1
def ATK := AE8 APL.eq_1
def ATV := AE8 APR.eq_1
def AT5 := AE8 APv.eq_1
def AT1 := AE8 APG.eq_1
def AUL := AE8 AP9.eq_1
def AT0 := AE8 AQd.eq_1
def AXW := AE8 AUX.eq_1
theorem AXr {K : TV → Prop} {e : Env} {H : List Ob} : res AVD e H K = res [.tmp 4] e H K := AE7 rfl
def AVB := (And.intro (And.intro (And.intro (And.intro (And.intro (And.intro @AVk @AU1) (And.intro @AVM @AVI)) (And.intro (And.intro @AVK @AU4) (And.intro @AVJ @AVf))) (And.intro (And.intro (And.intro @AVb @AUf) (And.intro @AUd @AUr)) (And.intro (And.intro @AUK @AUD) (And.intro @AUE @AUv)))) (And.intro (And.intro (And.intro (And.intro @ATY @AUM) (And.intro @AUC @AUy)) (And.intro (And.intro @AT9 @ATW) (And.intro @ATT @AUi))) (And.intro (And.intro (And.intro @AUG @AUt) (And.intro @AUp @AUs)) (And.intro (And.intro @AUh @ATP) (And.intro @ATN @AUR))))) (And.intro (And.intro (And.intro (And.intro @AUl @AUc) (And.intro @ATS @AUk)) (And.intro (And.intro @AT2 @AUS) (And.intro @ATK @ATV))) (And.intro (And.intro (And.intro @AT5 @AT1) (And.intro @AUL @AT0)) (And.intro @AXW @AXr))))
def AYj := AH5 200 Tryz.func122 AYX AY5 rfl

end Go.Proofs.YtliaddbbmnfioaaGreatDoor


namespace Go.Proofs.YtliaddbbmnfioaaGreatDoor
open Go.RowKit
variable [AFq]
set_option linter.unusedSectionVars false
set_option linter.unusedVariables false
set_option linter.unusedSimpArgs false

section
variable [AKO]
end
end Go.Proofs.YtliaddbbmnfioaaGreatDoor


namespace Go.Proofs.YtliaddbbmnfioaaGreatDoor
open Go.RowKit
variable [AFq]
set_option linter.unusedSectionVars false
set_option linter.unusedVariables false
set_option linter.unusedSimpArgs false

theorem Bim : ∀ b : Nat, b < 256 → ¬ (48 ≤ b ∧ b ≤ 57) → 97 ≤ b ||| 32 → b ||| 32 ≤ 122 → 10 ≤ (b ||| 32) - 97 + 10 := by
 intro b h1 h2 h3 h4; omega
theorem AYM (b : UInt8) : AF9 Tryz.prog 151 [by8 b] (fun r => r = .val (.int .u8 ((b.toNat ||| 32 : Nat) : Int))) := by
 refine AFl.toPureV (AO8 (by simp) ?_)
 have hb := b.toNat_lt
 simp -dsimp (disch := first | assumption | omega | (simp only [AFa]; done) | (simp only [AFa]; omega)) only [↓AFe, AFb, AFd, AFc, eq_self, ↓reduceIte, reduceCtorEq, ↓AP6, Bgd]
end Go.Proofs.YtliaddbbmnfioaaGreatDoor


namespace Go.Proofs.YtliaddbbmnfioaaGreatDoor
open Go.RowKit
variable [AFq]
set_option linter.unusedSectionVars false
set_option linter.unusedVariables false
set_option linter.unusedSimpArgs false
class AFm [AFq] : Prop where
 k : ∃ t a, AJf 4 = some (.one (.iface t (.pointer (some a))))
class AFn [AFq] : Prop where
 k : ∃ t a, AJf 5 = some (.one (.iface t (.pointer (some a))))
theorem A0T {F : Nat → Prop} {w : World} (h : AMl F w) {g : Nat} {v : Value} (e : AJf g = some (.one v)) : w.cell? ⟨g, 0, none⟩ = some v := by
 have := h.at e 0 v rfl
 simpa using this
variable [AFm] [AFn]
theorem BdZ (fn s : List UInt8) (base bits : Int) (hs : s.length ≤ 1000000) (c : Nat) (hc : c = 1 ∨ c = 2) : AF9 Tryz.prog 124 [ts fn, ts s, i64 base, i64 bits, .ifc 228 (i64 (c : Int))] (fun r => r = .ifc 229 .any) := by
 intro β F w vs hF hv
 obtain ⟨v1, us, rfl, h1, hv⟩ := AFO.cons.1 hv
 obtain ⟨v2, us, rfl, h2, hv⟩ := AFO.cons.1 hv
 obtain ⟨v3, us, rfl, h3, hv⟩ := AFO.cons.1 hv
 obtain ⟨v4, us, rfl, h4, hv⟩ := AFO.cons.1 hv
 obtain ⟨v5, us, rfl, h5, hv⟩ := AFO.cons.1 hv
 rw [AFO.nil] at hv; subst hv
 obtain rfl := Rep.val.1 (Or.inl h1 : Rep _ _ _ _)
 obtain rfl := Rep.val.1 (Or.inl h2 : Rep _ _ _ _)
 obtain rfl := Rep.val.1 (Or.inl h3 : Rep _ _ _ _)
 obtain rfl := Rep.val.1 (Or.inl h4 : Rep _ _ _ _)
 have e5 : v5 = .iface 228 (.int .i64 (c : Int)) := by
  rcases h5 with h5 | h5 | ⟨us, h5, rfl⟩
  ·cases h5
  ·cases h5
  ·rw [AFf] at h5
   obtain ⟨u, rfl, vs, h6, rfl⟩ := h5
   rw [AFf] at h6
   rw [h6.1]; rfl
 subst e5
 have hsz : (str s).size ≤ 281474976710656 := by simp [str, ByteArray.size]; omega
 have fin : ∀ e w', (∃ N, e = Ending.returned (.iface 229 (.pointer (some ⟨N, 0, none⟩))) ∧ Below w.heap.size w w') → ∃ v x F', e = .returned v ∧ x = .ifc 229 .any ∧ Rep ⟨β, [], F'⟩ w' x v ∧ AQH F w F' w' := by
  rintro e w' ⟨N, rfl, hb⟩
  refine ⟨_, _, F, rfl, rfl, Rep.of_cells (us := [.iface 229 (.pointer (some ⟨N, 0, none⟩))]) ?_, ⟨hb.os, hb.tape, hb.output, hb.size, hb.block, fun _ h => h, fun _ _ h => h, fun b hb' => Nat.lt_of_lt_of_le (hF.1 b hb') hb.size⟩⟩
  rw [AFf]
  refine ⟨_, rfl, [.pointer (some ⟨N, 0, none⟩)], ?_, rfl⟩
  rw [AFf]
  exact ⟨_, rfl, rfl⟩
 rcases hc with rfl | rfl
 ·obtain ⟨t, a, hk⟩ := AFn.k
  refine (Tryz.strconv_toError_range (str fn) (str s) base bits _ w hsz (A0T hF.2 hk) (.inr ⟨_, _, rfl⟩)).mono ?_
  rintro e w' ⟨N, rfl, _, _, hb⟩
  exact fin _ _ ⟨N, rfl, hb⟩
 ·obtain ⟨t, a, hk⟩ := AFm.k
  refine (Tryz.strconv_toError_syntax (str fn) (str s) base bits _ w hsz (A0T hF.2 hk) (.inr ⟨_, _, rfl⟩)).mono ?_
  rintro e w' ⟨N, rfl, _, _, hb⟩
  exact fin _ _ ⟨N, rfl, hb⟩
end Go.Proofs.YtliaddbbmnfioaaGreatDoor


namespace Go.Proofs.YtliaddbbmnfioaaGreatDoor
open Go.RowKit
variable [AFq]
set_option linter.unusedSectionVars false
set_option linter.unusedVariables false

set_option maxHeartbeats 2000000 in
set_option maxRecDepth 100000 in
theorem AWx (a : Addr) (n c : Nat) (xs : List Int) (cv : Int) (w : World) (hx : xs.length = n) (hc : ∀ i, i < n → w.cell? (a.add i) = some (.int .u8 (xs.getD i 0))) :
  Calls Tryz.prog 146 #[.slice (some a) n c, .int .u8 cv] w fun e w' => e = .returned (.int .i64 (Lib.indexByte (Lib.bytesOf xs) cv.toNat.toUInt8)) ∧ w' = w := by
 go_enter Tryz.func146, Tryz.ntmps146
 go_wp2
 rw [run_callFunc_extern Tryz.func171 (by kernel_rfl) (by kernel_rfl) (by kernel_rfl) (e := Extern.BytealgIndexByte.indexByte) (by kernel_rfl), Lib.run_indexByteAt w a n c xs hx hc cv]
 simp only [Result.andThen]
 rw [Oper.upon_value]
 go_wp2
 go_ret
 exact ⟨rfl, rfl⟩
set_option maxHeartbeats 2000000 in
set_option maxRecDepth 100000 in
theorem AYY (n c : Nat) (cv : Int) (w : World) :
  Calls Tryz.prog 146 #[.slice none n c, .int .u8 cv] w fun e w' => e = .returned (.int .i64 (-1)) ∧ w' = w := by
 go_enter Tryz.func146, Tryz.ntmps146
 go_wp2
 rw [run_callFunc_extern Tryz.func171 (by kernel_rfl) (by kernel_rfl) (by kernel_rfl) (e := Extern.BytealgIndexByte.indexByte) (by kernel_rfl), Lib.run_indexByteNil w n c cv]
 simp only [Result.andThen]
 rw [Oper.upon_value]
 go_wp2
 go_ret
 exact ⟨rfl, rfl⟩

theorem AF9.indexByte (l : List UInt8) (c : UInt8) : AF9 Tryz.prog 146 [slB l, by8 c] (fun x => x = .val (.int .i64 (Lib.indexByte l c))) := by
 intro β F w vs hF hv
 obtain ⟨v, us, rfl, h1, hv⟩ := AFO.cons.1 hv
 obtain ⟨v2, us, rfl, h2, hv⟩ := AFO.cons.1 hv
 rw [AFO.nil] at hv; subst hv
 have h2' : v2 = .int .u8 c.toNat := by
  have := Rep.val.1 (Or.inl h2 : Rep _ _ _ _); exact this
 subst h2'
 have hcv : ((c.toNat : Int)).toNat.toUInt8 = c := by
  rw [Int.toNat_natCast]; simp
 have fin : ∀ e w', (e = Ending.returned (.int .i64 (Lib.indexByte l c)) ∧ w' = w) → ∃ v x F', e = .returned v ∧ x = .val (.int .i64 (Lib.indexByte l c)) ∧ Rep ⟨β, [], F'⟩ w' x v ∧ AQH F w F' w' := by
  rintro e w' ⟨rfl, rfl⟩
  exact ⟨_, _, F, rfl, rfl, Rep.of_val, ⟨rfl, rfl, rfl, Nat.le_refl _, fun _ _ => rfl, fun _ h => h, fun _ _ h => h, hF.1⟩⟩
 have hr0 : Rep ⟨β, [], F⟩ w (slB l) v := Or.inl h1
 have hr := hr0.sl
 obtain ⟨hw, hr⟩ := hr
 rcases hr with ⟨he, ad, cap, rfl, _⟩ | ⟨b, off, cap, us, rfl, h3, h4, h5, h6, h7⟩
 ·have hl : l = [] := by simpa using he
  subst hl
  cases ad with
  | none => exact (AYY 0 cap _ w).mono fun e w' h => fin e w' h
  | some ad =>
   refine (AWx ad 0 cap [] c.toNat w rfl (fun i hi => by omega)).mono fun e w' h => fin e w' ?_
   exact h
 ·have hb := AJZ (fun y hy => by obtain ⟨b, _, rfl⟩ := List.mem_map.1 hy; exact AZC b) h6
  rw [AQ5] at hb
  refine (AWx ⟨b, off, none⟩ (l.map by8).length cap (l.map fun b : UInt8 => (b.toNat : Int)) c.toNat w (by simp) (fun i hi => ?_)).mono fun e w' h => fin e w' ?_
  ·rw [AGk]
   have hi' : i < l.length := by simpa using hi
   refine h7 i _ ?_
   rw [hb, List.getElem?_map, List.getElem?_eq_getElem hi', List.getD_eq_getElem?_getD, List.getElem?_map, List.getElem?_eq_getElem hi']
   rfl
  ·rw [hcv] at h
   have : Lib.bytesOf (l.map fun b : UInt8 => (b.toNat : Int)) = l := by
    simp [Lib.bytesOf, List.map_map, Function.comp_def]
   rw [this] at h; exact h
end Go.Proofs.YtliaddbbmnfioaaGreatDoor


namespace Go.Proofs.YtliaddbbmnfioaaGreatDoor
open Go.RowKit
variable [AFq]
set_option linter.unusedSectionVars false
set_option linter.unusedVariables false
set_option linter.unusedSimpArgs false
def ARL (c : UInt8) : List UInt8 → Option Nat
 | [] => none
 | b :: l => if b = c then some 0 else (ARL c l).map (· + 1)
theorem AM1 {c : UInt8} : ∀ {l : List UInt8} {i : Nat}, ARL c l = some i → i < l.length ∧ l[i]? = some c ∧ ¬ c ∈ l.take i
 | [], i, h => by cases h
 | b :: l, i, h => by
  rw [ARL] at h
  split at h
  ·rename_i e; cases h; exact ⟨by simp, by simp [e], by simp⟩
  ·rename_i e
   obtain ⟨j, hj, rfl⟩ := Option.map_eq_some_iff.1 h
   obtain ⟨h1, h2, h3⟩ := AM1 hj
   exact ⟨by simp; omega, by simpa using h2, by simp [h3, Ne.symm e]⟩
theorem AY4 (c : UInt8) : ∀ l : List UInt8, Lib.indexByte l c = (match ARL c l with | some i => (i : Int) | none => -1) := by
 intro l
 induction l with
 | nil => rfl
 | cons b l ih =>
  rw [Lib.indexByte, ARL]
  by_cases e : b = c
  ·simp [e]
  ·rw [if_neg (by simpa using e), if_neg e, ih]
   cases hc : ARL c l with
   | none => simp
   | some i =>
    have : ¬ ((i : Int) == -1) = true := by simp
    simp only [Option.map_some]
    rw [if_neg this]; rfl
theorem A3G (s : List UInt8) (c : UInt8) (hs : s.length ≤ 1000000) : AF9 Tryz.prog 122 [slB s, slB [c]] (fun r => r = i64 (Lib.indexByte s c)) := by
 refine AFl.toPureV (AYj (by simp) ?_)
 simp -dsimp (disch := first | assumption | omega | (simp only [AFa]; done) | (simp only [AFa]; omega)) only [↓AFe, AFb, AFd, AFc, eq_self, Nat.reduceEqDiff, ↓reduceIte, Nat.reduceAdd, reduceCtorEq, ↓AVB]
 refine (AF9.indexByte s c).calls rfl fun r hr => ?_
 subst hr
 simp -dsimp (disch := first | assumption | omega | (simp only [AFa]; done) | (simp only [AFa]; omega)) only [↓AFe, AFb, AFd, AFc, eq_self, ↓reduceIte, ↓AVB]
theorem BfN (s : List UInt8) (c : UInt8) (hs : s.length ≤ 1000000) : AF9 Tryz.prog 88 [slB s, slB [c]] (fun r => (∀ i, ARL c s = some i → r = .tup [slB (s.take i), slB (s.drop (i + 1)), tb true]) ∧ (ARL c s = none → r = .tup [slB s, .val (.slice none 0 0), tb false])) := by
 refine AFl.toPureV (A0B (by simp) ?_)
 simp -dsimp (disch := first | assumption | omega | (simp only [AFa]; done) | (simp only [AFa]; omega)) only [↓AFe, AFb, AFd, AFc, eq_self, Nat.reduceEqDiff, ↓reduceIte, Nat.reduceAdd, reduceCtorEq, ↓AUu]
 refine (A3G s c hs).calls rfl fun r hr => ?_
 subst hr
 rw [AY4]
 cases hc : ARL c s with
 | none =>
  simp only
  simp -dsimp (disch := first | assumption | omega | (simp only [AFa]; done) | (simp only [AFa]; omega)) only [↓AFe, AFb, AFd, AFc, eq_self, forall_const, Nat.reduceEqDiff, ↓reduceIte, reduceCtorEq, ↓AUu]
  exact fun i h => h.elim
 | some i =>
  obtain ⟨h1, _, _⟩ := AM1 hc
  simp only
  simp -dsimp (disch := first | assumption | omega | (simp only [AFa]; done) | (simp only [AFa]; omega)) only [↓AFe, AFb, AFd, AFc, eq_self, Nat.reduceEqDiff, ↓reduceIte, reduceCtorEq, ↓AUu]
  exact ⟨fun j h => (by cases h; rfl), fun h => h.elim⟩
section
variable [AFi] [AFm] [AFn]
end
end Go.Proofs.YtliaddbbmnfioaaGreatDoor


namespace Go.Proofs.YtliaddbbmnfioaaGreatDoor
open Go.RowKit
variable [AFq]
set_option linter.unusedSectionVars false
set_option linter.unusedVariables false
set_option linter.unusedSimpArgs false

theorem AVi {c : UInt8} : ∀ {l m : List UInt8}, ¬ c ∈ l → ARL c (l ++ c :: m) = some l.length
 | [], m, _ => by simp [ARL]
 | b :: l, m, h => by
  rw [List.cons_append, ARL, if_neg (fun e => h (by simp [e])), AVi (fun hm => h (List.mem_cons_of_mem _ hm))]
  simp
end Go.Proofs.YtliaddbbmnfioaaGreatDoor


namespace Go.Proofs.YtliaddbbmnfioaaGreatDoor
open Go.RowKit
variable [AFq]
set_option linter.unusedSectionVars false
set_option linter.unusedVariables false
set_option linter.unusedSimpArgs false

variable [AFm] [AFn]
end Go.Proofs.YtliaddbbmnfioaaGreatDoor


namespace Go.Proofs.YtliaddbbmnfioaaGreatDoor
open Go.RowKit
variable [AFq]
set_option linter.unusedSectionVars false
set_option linter.unusedVariables false
set_option linter.unusedSimpArgs false

section
omit [AFq]
structure Per where
 name : List UInt8
 mail : List UInt8
 time : Int
 zone : Int
def A2r (s : List UInt8) : Prop := s.length ≤ 60 ∧ (∀ c ∈ s, c ≠ 60 ∧ c ≠ 62 ∧ c ≠ 10 ∧ c ≠ 0) ∧ s[0]? ≠ some 32 ∧ s[s.length - 1]? ≠ some 32
instance (s : List UInt8) : Decidable (A2r s) := by unfold A2r; infer_instance
def Bej (p : Per) : Prop := A2r p.name ∧ A2r p.mail ∧ 0 ≤ p.time ∧ p.time ≤ 1099511627776 ∧ -840 ≤ p.zone ∧ p.zone ≤ 840
instance (p : Per) : Decidable (Bej p) := by unfold Bej; infer_instance
end
end Go.Proofs.YtliaddbbmnfioaaGreatDoor


namespace Go.Proofs.YtliaddbbmnfioaaGreatDoor
open Go.RowKit
variable [AFq]
set_option linter.unusedSectionVars false
set_option linter.unusedVariables false
set_option linter.unusedSimpArgs false
def AMA (s : List UInt8) : Bool := decide (s ≠ [] ∧ s ≠ [46] ∧ s ≠ [46, 46] ∧ s ≠ [46, 103, 105, 116] ∧ s.length ≤ 50 ∧ ¬ ∃ x ∈ s, x ∈ [(47 : UInt8), 0])
theorem BbF (s : List UInt8) (hs : s.length ≤ 9223372036854775807) : AF9 Tryz.prog 81 [ts s] (fun x => x = tb (AMA s)) := by
 refine AFl.toPureV (AWV (by simp) ?_)
 unfold AMA
 by_cases h1 : s = []
 ·subst h1; simp -dsimp (disch := first | assumption | omega) only [↓AFe, AFb, AFd, AFc, eq_self, Nat.reduceEqDiff, ↓reduceIte, reduceCtorEq, ↓AGf]; simp
 by_cases h2 : s = [46]
 ·subst h2; simp -dsimp (disch := first | assumption | omega) only [↓AFe, AFb, AFd, AFc, eq_self, Nat.reduceEqDiff, ↓reduceIte, reduceCtorEq, Nat.reduceLeDiff, ↓AGf]; simp
 by_cases h3 : s = [46, 46]
 ·subst h3; simp -dsimp (disch := first | assumption | omega) only [↓AFe, AFb, AFd, AFc, eq_self, Nat.reduceEqDiff, ↓reduceIte, Nat.reduceAdd, reduceCtorEq, Nat.reduceLeDiff, ↓AGf]; simp
 by_cases h4 : s = [46, 103, 105, 116]
 ·subst h4; simp -dsimp (disch := first | assumption | omega) only [↓AFe, AFb, AFd, AFc, eq_self, Nat.reduceEqDiff, ↓reduceIte, Nat.reduceAdd, reduceCtorEq, Nat.reduceLeDiff, ↓AGf]; simp
 by_cases h5 : s.length ≤ 50
 ·simp -dsimp (disch := first | assumption | omega) only [↓AFe, AFb, AFd, AFc, eq_self, Nat.reduceEqDiff, ↓reduceIte, reduceCtorEq, ↓AGf, h1, h2, h3, h4, AGB]
  refine (A0S s [47, 0] (by omega) (by simp) (by simp) (by simp)).calls rfl ?_
  rintro _ rfl
  simp -dsimp (disch := first | assumption | omega) only [↓AFe, AFb, AFd, AFc, eq_self, Nat.reduceEqDiff, ↓reduceIte, ↓AGf]
  by_cases hb : ∃ x ∈ s, x ∈ [(47 : UInt8), 0]
  ·rw [decide_eq_true hb, decide_eq_false (fun h => h.2.2.2.2.2 hb)]; rfl
  ·rw [decide_eq_false hb, decide_eq_true ⟨h1, h2, h3, h4, h5, hb⟩]; rfl
 ·simp -dsimp (disch := first | assumption | omega) only [↓AFe, AFb, AFd, AFc, eq_self, Nat.reduceEqDiff, ↓reduceIte, reduceCtorEq, ↓AGf, h1, h2, h3, h4, AGB]
  simp [h5]
theorem A2G (s : List UInt8) (hs : s.length ≤ 9223372036854775807) : AF9 Tryz.prog 50 [ts s] (fun x => x = tb (AMA s)) := by
 refine AFl.toPureV (AYi (by simp) ?_)
 unfold AMA
 by_cases h1 : s = []
 ·subst h1; simp -dsimp (disch := first | assumption | omega) only [↓AFe, AFb, AFd, AFc, eq_self, Nat.reduceLT, Nat.reduceEqDiff, ↓reduceIte, reduceCtorEq, ↓AF8, AGB]; simp
 by_cases h5 : s.length ≤ 50
 ·by_cases h2 : s = [46]
  ·subst h2; simp -dsimp (disch := first | assumption | omega) only [↓AFe, AFb, AFd, AFc, eq_self, Nat.reduceLT, Nat.reduceEqDiff, ↓reduceIte, reduceCtorEq, Nat.reduceLeDiff, ↓AF8, AGB]; simp
  by_cases h3 : s = [46, 46]
  ·subst h3; simp -dsimp (disch := first | assumption | omega) only [↓AFe, AFb, AFd, AFc, eq_self, Nat.reduceLT, Nat.reduceEqDiff, ↓reduceIte, Nat.reduceAdd, reduceCtorEq, Nat.reduceLeDiff, ↓AF8, AGB]; simp
  by_cases h4 : s = [46, 103, 105, 116]
  ·subst h4; simp -dsimp (disch := first | assumption | omega) only [↓AFe, AFb, AFd, AFc, eq_self, Nat.reduceLT, Nat.reduceEqDiff, ↓reduceIte, Nat.reduceAdd, reduceCtorEq, Nat.reduceLeDiff, ↓AF8, AGB]; simp
  have hpos : 0 < s.length := List.length_pos_iff.2 h1
  simp -dsimp (disch := first | assumption | omega) only [↓AFe, AFb, AFd, AFc, eq_self, Nat.reduceEqDiff, ↓reduceIte, reduceCtorEq, ↓AF8, h2, h3, h4, AGB]
  refine AIa (fun q e H => ∃ i : Nat, q = s.length - i ∧ i ≤ s.length ∧ (∀ j x, j < i → s[j]? = some x → x ∉ [(47 : UInt8), 0]) ∧ e = [(0, ts s), (3, i64 (i : Int))] ∧ H = []) s.length ?_ ?_
  ·exact ⟨0, rfl, by omega, fun j x h => by omega, rfl, rfl⟩
  ·rintro q e H ⟨i, rfl, hi, hno, rfl, rfl⟩
   by_cases h : i < s.length
   ·obtain ⟨c, hc⟩ : ∃ c, s[i]? = some c := ⟨_, List.getElem?_eq_getElem h⟩
    by_cases c1 : c = 0
    ·subst c1
     simp -dsimp (disch := first | assumption | omega) only [↓AFe, AFb, AFd, AFc, eq_self, Nat.reduceEqDiff, UInt8.reduceToNat, ↓reduceIte, reduceCtorEq, ↓AF8, AGB, hc]
     rw [decide_eq_false (fun h => h.2.2.2.2.2 ⟨0, List.mem_of_getElem? hc, by simp⟩)]
    by_cases c2 : c = 47
    ·subst c2
     simp -dsimp (disch := first | assumption | omega) only [↓AFe, AFb, AFd, AFc, eq_self, Nat.reduceEqDiff, UInt8.reduceToNat, ↓reduceIte, reduceCtorEq, ↓AF8, AGB, hc]
     rw [decide_eq_false (fun h => h.2.2.2.2.2 ⟨47, List.mem_of_getElem? hc, by simp⟩)]
    have d1 : ¬ c.toNat = 0 := fun e => c1 (UInt8.toNat_inj.1 e)
    have d2 : ¬ c.toNat = 47 := fun e => c2 (UInt8.toNat_inj.1 e)
    simp -dsimp (disch := first | assumption | omega) only [↓AFe, AFb, AFd, AFc, eq_self, Nat.reduceEqDiff, ↓reduceIte, reduceCtorEq, ↓AF8, AGB, hc, d1, d2]
    refine AFW (s.length - (i + 1)) (by omega) (by simp) ⟨i + 1, rfl, by omega, fun j x hj hx => ?_, rfl, rfl⟩
    by_cases e : j = i
    ·subst e; rw [hc] at hx; cases hx; simp [c1, c2]
    ·exact hno j x (by omega) hx
   ·have hb : ¬ ∃ x ∈ s, x ∈ [(47 : UInt8), 0] := fun ⟨x, hx, hm⟩ => by
     obtain ⟨j, hj, rfl⟩ := List.mem_iff_getElem.1 hx
     exact hno j _ (by omega) (List.getElem?_eq_getElem hj) hm
    simp -dsimp (disch := first | assumption | omega) only [↓AFe, AFb, AFd, AFc, eq_self, Nat.reduceEqDiff, ↓reduceIte, reduceCtorEq, ↓AF8, AGB]
    rw [decide_eq_true ⟨h1, h2, h3, h4, h5, hb⟩]
 ·have hpos : 0 < s.length := List.length_pos_iff.2 h1
  simp -dsimp (disch := first | assumption | omega) only [↓AFe, AFb, AFd, AFc, eq_self, Nat.reduceEqDiff, ↓reduceIte, reduceCtorEq, ↓AF8, AGB]
  simp [h5]
end Go.Proofs.YtliaddbbmnfioaaGreatDoor


namespace Go.Proofs.YtliaddbbmnfioaaGreatDoor
open Go.RowKit
variable [AFq]
set_option linter.unusedSectionVars false
set_option linter.unusedVariables false
set_option linter.unusedSimpArgs false
def AR3 (b : UInt8) : Bool := 48 ≤ b.toNat && b.toNat ≤ 55
def ATo : Nat → List UInt8 → Nat
 | n, [] => n
 | n, b :: l => ATo (n * 8 + (b.toNat - 48)) l
theorem AVj : ∀ (l m : List UInt8) (n : Nat), ATo n (l ++ m) = ATo (ATo n l) m
 | [], _, _ => rfl
 | b :: l, m, n => AVj l m _
theorem A07 : ∀ (l : List UInt8) (n : Nat), n ≤ ATo n l
 | [], n => Nat.le_refl _
 | b :: l, n => Nat.le_trans (by omega) (A07 l _)
def pO (s : List UInt8) : Option Nat := if s ≠ [] ∧ s.all AR3 ∧ ATo 0 s < 1048576 then some (ATo 0 s) else none
def A0I (s : List UInt8) (r : TV) : Prop := (∀ n, pO s = some n → r = .tup [.val (.int .u64 (n : Int)), .val .nilIface]) ∧ (pO s = none → ∃ m c : Nat, m ≤ 1048575 ∧ (c = 1 ∨ c = 2) ∧ r = .tup [.val (.int .u64 (m : Int)), .ifc 228 (i64 (c : Int))])
theorem A0I.no {s : List UInt8} (h : pO s = none) {m c : Nat} (hc : c = 1 ∨ c = 2) (hm : m ≤ 1048575 := by omega) : A0I s (.tup [.val (.int .u64 (m : Int)), .ifc 228 (i64 (c : Int))]) :=
 ⟨fun n hn => (by rw [h] at hn; cases hn), fun _ => ⟨m, c, hm, hc, rfl⟩⟩
theorem A0I.yes {s : List UInt8} {n : Nat} (h : pO s = some n) : A0I s (.tup [.val (.int .u64 (n : Int)), .val .nilIface]) :=
 ⟨fun m hm => (by rw [h] at hm; cases hm; rfl), fun hn => (by rw [h] at hn; cases hn)⟩
theorem A9C {s : List UInt8} {i : Nat} {b : UInt8} (h : s[i]? = some b) (hb : AR3 b = false) : pO s = none := by
 unfold pO
 rw [if_neg]
 rintro ⟨_, h2, _⟩
 have := List.all_eq_true.1 h2 b (List.mem_of_getElem? h)
 rw [hb] at this; cases this
theorem Bcs {s : List UInt8} {i : Nat} (h : 1048576 ≤ ATo 0 (s.take i)) : pO s = none := by
 unfold pO
 rw [if_neg]
 rintro ⟨_, _, h3⟩
 have : ATo 0 s = ATo (ATo 0 (s.take i)) (s.drop i) := by rw [← AVj, List.take_append_drop]
 have h4 := A07 (s.drop i) (ATo 0 (s.take i))
 omega
theorem Bew (s : List UInt8) (hs : s.length ≤ 1000000) : AF9 Tryz.prog 123 [ts s, i64 ((8 : Nat) : Int), i64 ((20 : Nat) : Int)] (A0I s) := by
 refine AFl.toPureV (AMf (by simp) ?_)
 by_cases h0 : s = []
 ·subst h0
  have hn : pO [] = none := by unfold pO; simp
  simp -dsimp (disch := first | assumption | omega | (simp only [AFa]; done) | (simp only [AFa]; omega)) only [↓AFe, AFb, AFd, AFc, eq_self, Nat.reduceEqDiff, ↓reduceIte, Nat.reduceAdd, reduceCtorEq, ↓AHA, ↓AGl, ↓AFh]
  exact A0I.no hn (.inr rfl)
 have hw1 : IntKind.u64.wrap ((20 : Nat) : Int) = ((20 : Nat) : Int) := AWe (by omega)
 simp -dsimp (disch := first | assumption | omega | (simp only [AFa]; done) | (simp only [AFa]; omega)) only [↓AFe, AFb, AFd, AFc, eq_self, Nat.reduceLT, Nat.reduceEqDiff, ↓reduceIte, Nat.reduceAdd, reduceCtorEq, Nat.reduceLeDiff, ↓AHA, ↓AGl, h0, ↓AI0, ↓AIV, ↓AIT, ↓AIZ, ↓AIY, ↓AIS]
 have hw8a : IntKind.u64.wrap ((8 : Nat) : Int) = ((8 : Nat) : Int) := by decide
 have hq : ∀ t, AHJ t .quo (.int .u64 ((18446744073709551615 : Nat) : Int)) (.int .u64 ((8 : Nat) : Int)) = some (.int .u64 ((2305843009213693951 : Nat) : Int)) := fun t => rfl
 have hq2 : ∀ t, AHJ t .add (.int .u64 ((2305843009213693951 : Nat) : Int)) (.int .u64 ((1 : Nat) : Int)) = some (.int .u64 ((2305843009213693952 : Nat) : Int)) := fun t => rfl
 simp -dsimp (disch := first | assumption | omega | (simp only [AFa]; done) | (simp only [AFa]; omega)) only [↓AFe, AFb, AFd, AFc, eq_self, Nat.reduceEqDiff, Nat.reduceSub, Nat.reduceMul, Nat.reducePow, ↓reduceIte, reduceCtorEq, ↓AI5, ↓AIJ, ↓AIM, hw8a, hq, hq2, ↓AIO, hw1, A8o, A13, ↓AIU, ↓AIW, ↓AIQ, AGB, ↓AI7]
 refine AIa (fun q e H => ∃ (i n : Nat), q = s.length - i ∧ i ≤ s.length ∧ (s.take i).all AR3 = true ∧ n = ATo 0 (s.take i) ∧ n < 1048576 ∧ H = [.obj 0 (.arr s.length 1 (s.map by8))] ∧
  e = [(1, i64 ((8 : Nat) : Int)), (8, tb false), (9, ts s), (10, .val (.int .u64 ((2305843009213693952 : Nat) : Int))), (11, .val (.int .u64 ((1048575 : Nat) : Int))), (12, tb false), (13, .val (.int .u64 (n : Int))), (99, .os 1 0 0 [] 0 s.length s.length), (100, i64 (s.length : Int)), (101, i64 (i : Int))]) s.length ?_ ?_
 ·refine ⟨0, 0, ?_, Nat.zero_le _, ?_, ?_, ?_, ?_, ?_⟩
  ·simp
  ·rw [List.take_zero]; rfl
  ·rw [List.take_zero]; rfl
  ·omega
  ·simp
  ·simp [forget, get]
 ·rintro q e H ⟨i, n, rfl, hi, hall, hn, hnl, rfl, rfl⟩
  by_cases c : i < s.length
  ·have hg : s[i]? = some s[i] := List.getElem?_eq_getElem c
   have hsucc := List.take_succ_eq_append_getElem c
   generalize s[i] = b at *
   have hb := b.toNat_lt
   have hnum : ATo 0 (s.take (i + 1)) = n * 8 + (b.toNat - 48) := by rw [hsucc, AVj, ← hn]; rfl
   have hw8 : IntKind.u8.wrap ((8 : Nat) : Int) = ((8 : Nat) : Int) := by decide
   have hw8' : IntKind.u64.wrap ((8 : Nat) : Int) = ((8 : Nat) : Int) := by decide
   by_cases hd : 48 ≤ b.toNat ∧ b.toNat ≤ 57
   ·by_cases hoc : b.toNat ≤ 55
    case neg =>
     have hno := A9C hg (show AR3 b = false by unfold AR3; simp; omega)
     have h95 : ¬ b.toNat = 95 := by omega
     simp -dsimp (disch := first | assumption | omega | (simp only [AFa]; done) | (simp only [AFa]; omega)) only [↓AFe, AFb, AFd, AFc, eq_self, Nat.reduceEqDiff, ↓reduceIte, ↓AFv, ↓AFx, ↓AFK, hg, ↓AFM, ↓AFL, h95, ↓AFJ, ↓AFH, ↓AFw, AZZ, ↓AFI, hw8, ↓AFh]
     exact A0I.no hno (.inr rfl)
    have hisd : AR3 b = true := by unfold AR3; simp [hd, hoc]
    have h95 : ¬ b.toNat = 95 := by omega
    have hwd : IntKind.u64.wrap ((b.toNat - 48 : Nat) : Int) = ((b.toNat - 48 : Nat) : Int) := AWe (by omega)
    by_cases hc : 2305843009213693952 ≤ n
    ·exact absurd hc (by omega)
    ·have hnl2 := hnl
     clear hnl
     have hn8 : n * 8 < 18446744073709551616 := by omega
     have hadd : ∀ t, AHJ t .add (.int .u64 ((n * 8 : Nat) : Int)) (.int .u64 ((b.toNat - 48 : Nat) : Int)) = some (.int .u64 (((n * 8 + (b.toNat - 48)) % 18446744073709551616 : Nat) : Int)) := fun t => by
      rw [show AHJ t .add (.int .u64 ((n * 8 : Nat) : Int)) (.int .u64 ((b.toNat - 48 : Nat) : Int)) = some (.int .u64 (IntKind.u64.wrap (((n * 8 : Nat) : Int) + ((b.toNat - 48 : Nat) : Int)))) from rfl, IntKind.wrap_u64]
      congr 2
     simp -dsimp (disch := first | assumption | omega | (simp only [AFa]; done) | (simp only [AFa]; omega)) only [↓AFe, AFb, AFd, AFc, eq_self, Nat.reduceEqDiff, ↓reduceIte, ↓AFv, ↓AFx, ↓AFK, hg, ↓AFM, ↓AFL, h95, ↓AFJ, ↓AFH, ↓AFw, AZZ, ↓AFI, hw8, ↓AI3, ↓AIK, hw8', A2b, ↓AIP, hwd, hadd, ↓AI1]
     by_cases hbig : 1048576 ≤ n * 8 + (b.toNat - 48)
     ·have hno := Bcs (s := s) (i := i + 1) (by rw [hnum]; exact hbig)
      by_cases hwr : (n * 8 + (b.toNat - 48)) % 18446744073709551616 < n * 8
      ·simp -dsimp (disch := first | assumption | omega | (simp only [AFa]; done) | (simp only [AFa]; omega)) only [↓AFe, AFb, AFd, AFc, eq_self, Nat.reduceEqDiff, ↓reduceIte, ↓AFh]
       exact A0I.no hno (.inl rfl)
      ·have hgt : (n * 8 + (b.toNat - 48)) % 18446744073709551616 > 1048575 := by omega
       simp -dsimp (disch := first | assumption | omega | (simp only [AFa]; done) | (simp only [AFa]; omega)) only [↓AFe, AFb, AFd, AFc, eq_self, Nat.reduceEqDiff, ↓reduceIte, ↓AFh]
       exact A0I.no hno (.inl rfl)
     ·have hmod : (n * 8 + (b.toNat - 48)) % 18446744073709551616 = n * 8 + (b.toNat - 48) := Nat.mod_eq_of_lt (by omega)
      rw [hmod]
      simp -dsimp (disch := first | assumption | omega | (simp only [AFa]; done) | (simp only [AFa]; omega)) only [↓AFe, AFb, AFd, AFc, eq_self, Nat.reduceEqDiff, ↓reduceIte]
      exact AFW (s.length - (i + 1)) (by omega) (by simp) ⟨i + 1, n * 8 + (b.toNat - 48), rfl, by omega, by rw [hsucc, List.all_append, hall]; simp [hisd], hnum.symm, by omega, rfl, by simp [forget, get]⟩
   ·have hno := A9C hg (show AR3 b = false by unfold AR3; simp; omega)
    by_cases h95 : b.toNat = 95
    ·have hor : (b.toNat ||| 32) = 127 := by rw [h95]; rfl
     simp -dsimp (disch := first | assumption | omega | (simp only [AFa]; done) | (simp only [AFa]; omega)) only [↓AFe, AFb, AFd, AFc, eq_self, Nat.reduceEqDiff, ↓reduceIte, Nat.reduceLeDiff, ↓AFv, ↓AFx, ↓AFK, hg, ↓AFM, ↓AFL, h95, ↓AFJ, ↓AFH, ↓AFw, ↓AFX]
     refine (AYM b).calls rfl fun r hr => ?_
     subst hr
     rw [hor]
     simp -dsimp (disch := first | assumption | omega | (simp only [AFa]; done) | (simp only [AFa]; omega)) only [↓AFe, AFb, AFd, AFc, eq_self, Nat.reduceEqDiff, ↓reduceIte, Nat.reduceLeDiff]
     refine (AYM b).calls rfl fun r hr => ?_
     subst hr
     rw [hor]
     simp -dsimp (disch := first | assumption | omega | (simp only [AFa]; done) | (simp only [AFa]; omega)) only [↓AFe, AFb, AFd, AFc, eq_self, Nat.reduceEqDiff, ↓reduceIte, Nat.reduceLeDiff, ↓AFh]
     exact A0I.no hno (.inr rfl)
    ·have hl := Bim b.toNat hb hd
     simp -dsimp (disch := first | assumption | omega | (simp only [AFa]; done) | (simp only [AFa]; omega)) only [↓AFe, AFb, AFd, AFc, eq_self, Nat.reduceEqDiff, ↓reduceIte, ↓AFv, ↓AFx, ↓AFK, hg, ↓AFM, ↓AFL, h95, ↓AFJ, ↓AFH]
     by_cases c48 : 48 ≤ b.toNat
     ·have c57 : ¬ b.toNat ≤ 57 := by omega
      simp -dsimp (disch := first | assumption | omega | (simp only [AFa]; done) | (simp only [AFa]; omega)) only [↓AFe, AFb, AFd, AFc, eq_self, Nat.reduceEqDiff, ↓reduceIte, ↓AFw, ↓AFX]
      refine (AYM b).calls rfl fun r hr => ?_
      subst hr
      have hlw := AYM b
      generalize b.toNat ||| 32 = x at *
      by_cases c97 : 97 ≤ x
      ·simp -dsimp (disch := first | assumption | omega | (simp only [AFa]; done) | (simp only [AFa]; omega)) only [↓AFe, AFb, AFd, AFc, eq_self, Nat.reduceEqDiff, ↓reduceIte]
       refine hlw.calls rfl fun r hr => ?_
       subst hr
       by_cases c122 : x ≤ 122
       ·have h10 := hl c97 c122
        have hmod : (x - 97 + 10) % 256 = x - 97 + 10 := Nat.mod_eq_of_lt (by omega)
        simp -dsimp (disch := first | assumption | omega | (simp only [AFa]; done) | (simp only [AFa]; omega)) only [↓AFe, AFb, AFd, AFc, eq_self, Nat.reduceEqDiff, ↓reduceIte]
        refine hlw.calls rfl fun r hr => ?_
        subst hr
        simp -dsimp (disch := first | assumption | omega | (simp only [AFa]; done) | (simp only [AFa]; omega)) only [↓AFe, AFb, AFd, AFc, eq_self, Nat.reduceEqDiff, ↓reduceIte, Nat.reduceLeDiff, AZZ, A9y, hmod, ↓AFI, hw8, ↓AFh]
        exact A0I.no hno (.inr rfl)
       ·simp -dsimp (disch := first | assumption | omega | (simp only [AFa]; done) | (simp only [AFa]; omega)) only [↓AFe, AFb, AFd, AFc, eq_self, Nat.reduceEqDiff, ↓reduceIte, ↓AFh]
        exact A0I.no hno (.inr rfl)
      ·simp -dsimp (disch := first | assumption | omega | (simp only [AFa]; done) | (simp only [AFa]; omega)) only [↓AFe, AFb, AFd, AFc, eq_self, Nat.reduceEqDiff, ↓reduceIte, ↓AFh]
       exact A0I.no hno (.inr rfl)
     ·simp -dsimp (disch := first | assumption | omega | (simp only [AFa]; done) | (simp only [AFa]; omega)) only [↓AFe, AFb, AFd, AFc, eq_self, Nat.reduceEqDiff, ↓reduceIte, ↓AFw, ↓AFX]
      refine (AYM b).calls rfl fun r hr => ?_
      subst hr
      have hlw := AYM b
      generalize b.toNat ||| 32 = x at *
      by_cases c97 : 97 ≤ x
      ·simp -dsimp (disch := first | assumption | omega | (simp only [AFa]; done) | (simp only [AFa]; omega)) only [↓AFe, AFb, AFd, AFc, eq_self, Nat.reduceEqDiff, ↓reduceIte]
       refine hlw.calls rfl fun r hr => ?_
       subst hr
       by_cases c122 : x ≤ 122
       ·have h10 := hl c97 c122
        have hmod : (x - 97 + 10) % 256 = x - 97 + 10 := Nat.mod_eq_of_lt (by omega)
        simp -dsimp (disch := first | assumption | omega | (simp only [AFa]; done) | (simp only [AFa]; omega)) only [↓AFe, AFb, AFd, AFc, eq_self, Nat.reduceEqDiff, ↓reduceIte]
        refine hlw.calls rfl fun r hr => ?_
        subst hr
        simp -dsimp (disch := first | assumption | omega | (simp only [AFa]; done) | (simp only [AFa]; omega)) only [↓AFe, AFb, AFd, AFc, eq_self, Nat.reduceEqDiff, ↓reduceIte, Nat.reduceLeDiff, AZZ, A9y, hmod, ↓AFI, hw8, ↓AFh]
        exact A0I.no hno (.inr rfl)
       ·simp -dsimp (disch := first | assumption | omega | (simp only [AFa]; done) | (simp only [AFa]; omega)) only [↓AFe, AFb, AFd, AFc, eq_self, Nat.reduceEqDiff, ↓reduceIte, ↓AFh]
        exact A0I.no hno (.inr rfl)
      ·simp -dsimp (disch := first | assumption | omega | (simp only [AFa]; done) | (simp only [AFa]; omega)) only [↓AFe, AFb, AFd, AFc, eq_self, Nat.reduceEqDiff, ↓reduceIte, ↓AFh]
       exact A0I.no hno (.inr rfl)
  ·have hi2 : i = s.length := by omega
   subst hi2
   rw [List.take_length] at hn hall
   have hyes : pO s = some n := by unfold pO; rw [if_pos ⟨h0, hall, by rw [← hn]; exact hnl⟩, hn]
   simp -dsimp (disch := first | assumption | omega | (simp only [AFa]; done) | (simp only [AFa]; omega)) only [↓AFe, AFb, AFd, AFc, eq_self, Nat.reduceEqDiff, ↓reduceIte, ↓AFv, ↓AFx, ↓AIN, ↓AFh]
   exact A0I.yes hyes
variable [AFm] [AFn]
theorem ATL (s : List UInt8) (hs : s.length ≤ 1000000) : AF9 Tryz.prog 89 [ts s, i64 ((8 : Nat) : Int), i64 ((20 : Nat) : Int)] (fun r => (∀ n, pO s = some n → r = .tup [.val (.int .u64 (n : Int)), .val .nilIface]) ∧ (pO s = none → ∃ m : Nat, m ≤ 1048575 ∧ r = .tup [.val (.int .u64 (m : Int)), .ifc 229 .any])) := by
 refine AFl.toPureV (ATi (by simp) ?_)
 simp -dsimp (disch := first | assumption | omega | (simp only [AFa]; done) | (simp only [AFa]; omega)) only [↓AFe, AFb, AFd, AFc, eq_self, Nat.reduceEqDiff, ↓reduceIte, Nat.reduceAdd, reduceCtorEq, ↓AHD]
 refine (Bew s hs).calls rfl fun r hr => ?_
 cases hp : pO s with
 | some n =>
  rw [hr.1 n hp]
  simp -dsimp (disch := first | assumption | omega | (simp only [AFa]; done) | (simp only [AFa]; omega)) only [↓AFe, AFb, AFd, AFc, eq_self, Nat.reduceEqDiff, ↓reduceIte, reduceCtorEq, ↓AHD]
  exact ⟨fun m hm => (by cases hm; rfl), fun h => (by cases h)⟩
 | none =>
  obtain ⟨m, c, hm, hc, rfl⟩ := hr.2 hp
  simp -dsimp (disch := first | assumption | omega | (simp only [AFa]; done) | (simp only [AFa]; omega)) only [↓AFe, AFb, AFd, AFc, eq_self, Nat.reduceEqDiff, ↓reduceIte, reduceCtorEq, ↓AHD]
  refine (BdZ _ s _ _ hs c hc).calls rfl fun r hr => ?_
  subst hr
  simp -dsimp (disch := first | assumption | omega | (simp only [AFa]; done) | (simp only [AFa]; omega)) only [↓AFe, AFb, AFd, AFc, eq_self, forall_const, Nat.reduceEqDiff, ↓reduceIte, reduceCtorEq, ↓AHD]
  exact ⟨fun n h => h.elim, m, hm, rfl⟩
end Go.Proofs.YtliaddbbmnfioaaGreatDoor


namespace Go.Proofs.YtliaddbbmnfioaaGreatDoor
variable [AFq]
set_option linter.unusedSectionVars false
set_option linter.unusedVariables false
set_option linter.defProp false
set_option maxRecDepth 100000

def AHe : AE9 := .block 1 (.seq (.ops [mv_ 47 13,
  po_ 48 (.bin 3 .sub (.t 47) (ci_ 1)),
  mv_ 13 48] [0, 1, 3, 4, 10, 11, 12, 13, 14, 15, 16])
 (.seq (.ops [mv_ 49 13,
  mv_ 50 1,
  mv_ 51 16,
  po_ 52 (.bin 123 .and (.t 50) (.t 51)),
  po_ 53 (.idxS (.c (.string (str [48, 49, 50, 51, 52, 53, 54, 55, 56, 57, 97, 98, 99, 100, 101, 102, 103, 104, 105, 106, 107, 108, 109, 110, 111, 112, 113, 114, 115, 116, 117, 118, 119, 120, 121, 122]))) (.t 52)),
  po_ 54 (.idxAA 65 1 (.t 12) (.t 49)),
  ⟨none, .s (.store 1 (.t 54) (.t 53)), none⟩] [0, 1, 3, 4, 10, 11, 12, 13, 14, 15, 16])
 (.ops [mv_ 55 1,
  mv_ 56 14,
  po_ 57 (.bin 163 .shr (.t 55) (.t 56)),
  mv_ 1 57] [0, 1, 3, 4, 10, 11, 12, 13, 14, 15, 16])))
def AGU : AE9 := .seq (.seq (.ops [mv_ 44 1,
  mv_ 45 15,
  po_ 46 (.bin 163 .geq (.t 44) (.t 45))] [0, 1, 3, 4, 10, 11, 12, 13, 14, 15, 16, 46])
 (.cond (.t 46)
 (.skip)
 (.exit 0)))
 AHe
def AGN : AE9 := .seq (.ops [mv_ 58 13,
  po_ 59 (.bin 3 .sub (.t 58) (ci_ 1)),
  mv_ 13 59] [0, 1, 3, 4, 10, 11, 12, 13])
 (.ops [mv_ 60 13,
  mv_ 61 1,
  po_ 62 (.idxS (.c (.string (str [48, 49, 50, 51, 52, 53, 54, 55, 56, 57, 97, 98, 99, 100, 101, 102, 103, 104, 105, 106, 107, 108, 109, 110, 111, 112, 113, 114, 115, 116, 117, 118, 119, 120, 121, 122]))) (.t 61)),
  po_ 63 (.idxAA 65 1 (.t 12) (.t 60)),
  ⟨none, .s (.store 1 (.t 63) (.t 62)), none⟩] [0, 3, 4, 10, 11, 12, 13])
def AGS : AE9 := .seq (.block 0 (.loop [0, 1, 3, 4, 10, 11, 12, 13, 14, 15, 16] AGU))
 AGN
def AG8 : AE9 := .seq (.ops [mv_ 41 2,
  po_ 42 (.conv .u64 (.t 41)),
  po_ 43 (.bin 123 .sub (.t 42) (.c (.int .u64 ((1 : Nat) : Int)))),
  mv_ 16 43] [0, 1, 3, 4, 10, 11, 12, 13, 14, 15, 16])
 AGS
def AHa : AE9 := .seq (.ops [mv_ 39 2,
  po_ 40 (.conv .u64 (.t 39)),
  mv_ 15 40] [0, 1, 2, 3, 4, 10, 11, 12, 13, 14, 15])
 AG8
def AGV : AE9 := .seq (.ops [mv_ 35 2,
  po_ 36 (.conv .u64 (.t 35)),
  so_ 37 (.call 162 [.t 36]),
  po_ 38 (.conv .u64 (.t 37)),
  mv_ 14 38] [0, 1, 2, 3, 4, 10, 11, 12, 13, 14])
 AHa
def AKe : AE9 := .seq (.ops [mv_ 71 1,
  mv_ 72 17,
  po_ 73 (.bin 163 .quo (.t 71) (.t 72)),
  mv_ 18 73] [0, 1, 3, 4, 10, 11, 12, 13, 17, 18])
 (.seq (.ops [mv_ 74 13,
  mv_ 75 1,
  mv_ 76 18,
  mv_ 77 17,
  po_ 78 (.bin 163 .mul (.t 76) (.t 77)),
  po_ 79 (.bin 163 .sub (.t 75) (.t 78)),
  po_ 80 (.idxS (.c (.string (str [48, 49, 50, 51, 52, 53, 54, 55, 56, 57, 97, 98, 99, 100, 101, 102, 103, 104, 105, 106, 107, 108, 109, 110, 111, 112, 113, 114, 115, 116, 117, 118, 119, 120, 121, 122]))) (.t 79)),
  po_ 81 (.idxAA 65 1 (.t 12) (.t 74)),
  ⟨none, .s (.store 1 (.t 81) (.t 80)), none⟩] [0, 3, 4, 10, 11, 12, 13, 17, 18])
 (.ops [mv_ 82 18,
  mv_ 1 82] [0, 1, 3, 4, 10, 11, 12, 13, 17]))
def AKd : AE9 := .block 3 (.seq (.ops [mv_ 69 13,
  po_ 70 (.bin 3 .sub (.t 69) (ci_ 1)),
  mv_ 13 70] [0, 1, 3, 4, 10, 11, 12, 13, 17])
 AKe)
def AJT : AE9 := .seq (.seq (.ops [mv_ 66 1,
  mv_ 67 17,
  po_ 68 (.bin 163 .geq (.t 66) (.t 67))] [0, 1, 3, 4, 10, 11, 12, 13, 17, 68])
 (.cond (.t 68)
 (.skip)
 (.exit 2)))
 AKd
def AJS : AE9 := .seq (.ops [mv_ 83 13,
  po_ 84 (.bin 3 .sub (.t 83) (ci_ 1)),
  mv_ 13 84] [0, 1, 3, 4, 10, 11, 12, 13])
 (.ops [mv_ 85 13,
  mv_ 86 1,
  po_ 87 (.idxS (.c (.string (str [48, 49, 50, 51, 52, 53, 54, 55, 56, 57, 97, 98, 99, 100, 101, 102, 103, 104, 105, 106, 107, 108, 109, 110, 111, 112, 113, 114, 115, 116, 117, 118, 119, 120, 121, 122]))) (.t 86)),
  po_ 88 (.idxAA 65 1 (.t 12) (.t 85)),
  ⟨none, .s (.store 1 (.t 88) (.t 87)), none⟩] [0, 3, 4, 10, 11, 12, 13])
def AJw : AE9 := .seq (.block 2 (.loop [0, 1, 3, 4, 10, 11, 12, 13, 17] AJT))
 AJS
def AJh : AE9 := .seq (.ops [mv_ 64 2,
  po_ 65 (.conv .u64 (.t 64)),
  mv_ 17 65] [0, 1, 3, 4, 10, 11, 12, 13, 17])
 AJw
def AGq : AE9 := .cond (.t 34)
 AGV
 AJh
def AGx : AE9 := .seq (.seq (.ops [mv_ 89 3] [0, 4, 10, 11, 12, 13, 89])
 (.cond (.t 89)
 (.seq (.ops [mv_ 90 13,
   po_ 91 (.bin 3 .sub (.t 90) (ci_ 1)),
   mv_ 13 91] [0, 4, 10, 11, 12, 13])
  (.ops [mv_ 92 13,
   po_ 93 (.idxAA 65 1 (.t 12) (.t 92)),
   ⟨none, .s (.store 1 (.t 93) (.c (.int .u8 ((45 : Nat) : Int)))), none⟩] [0, 4, 10, 11, 12, 13]))
 (.skip)))
 (.seq (.seq (.ops [mv_ 94 4] [0, 10, 11, 12, 13, 94])
 (.cond (.t 94)
 (.seq (.ops [mv_ 95 0,
   mv_ 96 13,
   po_ 97 (.slA 65 1 (.t 12) (some (.t 96)) none),
   so_ 98 (.app 1 1 5 (.t 95) (.t 97)),
   mv_ 10 98] [10, 11])
  (.ret))
 (.skip)))
 (.seq (.ops [mv_ 99 13,
  po_ 100 (.slA 65 1 (.t 12) (some (.t 99)) none),
  po_ 101 (.b2s (.t 100)),
  mv_ 11 101] [10, 11])
 (.ret)))
def AGr : AE9 := .seq (.seq (.ops [mv_ 33 2,
  so_ 34 (.call 161 [.t 33])] [0, 1, 2, 3, 4, 10, 11, 12, 13, 34])
 AGq)
 AGx
def AGy : AE9 := .seq (.seq (.ops [mv_ 30 3] [0, 1, 2, 3, 4, 10, 11, 12, 13, 30])
 (.cond (.t 30)
 (.ops [mv_ 31 1,
   po_ 32 (.un .neg (.t 31)),
   mv_ 1 32] [0, 1, 2, 3, 4, 10, 11, 12, 13])
 (.skip)))
 AGr
def AGu : AE9 := .seq (.ops [po_ 13 (.mov (ci_ 65))] [0, 1, 2, 3, 4, 10, 11, 12, 13])
 AGy
def AGw : AE9 := .seq (.ops [so_ 12 (.alloc (.arr 65 1 [.val (.int .u8 ((0 : Nat) : Int)), .val (.int .u8 ((0 : Nat) : Int)), .val (.int .u8 ((0 : Nat) : Int)), .val (.int .u8 ((0 : Nat) : Int)), .val (.int .u8 ((0 : Nat) : Int)), .val (.int .u8 ((0 : Nat) : Int)), .val (.int .u8 ((0 : Nat) : Int)), .val (.int .u8 ((0 : Nat) : Int)), .val (.int .u8 ((0 : Nat) : Int)), .val (.int .u8 ((0 : Nat) : Int)), .val (.int .u8 ((0 : Nat) : Int)), .val (.int .u8 ((0 : Nat) : Int)), .val (.int .u8 ((0 : Nat) : Int)), .val (.int .u8 ((0 : Nat) : Int)), .val (.int .u8 ((0 : Nat) : Int)), .val (.int .u8 ((0 : Nat) : Int)), .val (.int .u8 ((0 : Nat) : Int)), .val (.int .u8 ((0 : Nat) : Int)), .val (.int .u8 ((0 : Nat) : Int)), .val (.int .u8 ((0 : Nat) : Int)), .val (.int .u8 ((0 : Nat) : Int)), .val (.int .u8 ((0 : Nat) : Int)), .val (.int .u8 ((0 : Nat) : Int)), .val (.int .u8 ((0 : Nat) : Int)), .val (.int .u8 ((0 : Nat) : Int)), .val (.int .u8 ((0 : Nat) : Int)), .val (.int .u8 ((0 : Nat) : Int)), .val (.int .u8 ((0 : Nat) : Int)), .val (.int .u8 ((0 : Nat) : Int)), .val (.int .u8 ((0 : Nat) : Int)), .val (.int .u8 ((0 : Nat) : Int)), .val (.int .u8 ((0 : Nat) : Int)), .val (.int .u8 ((0 : Nat) : Int)), .val (.int .u8 ((0 : Nat) : Int)), .val (.int .u8 ((0 : Nat) : Int)), .val (.int .u8 ((0 : Nat) : Int)), .val (.int .u8 ((0 : Nat) : Int)), .val (.int .u8 ((0 : Nat) : Int)), .val (.int .u8 ((0 : Nat) : Int)), .val (.int .u8 ((0 : Nat) : Int)), .val (.int .u8 ((0 : Nat) : Int)), .val (.int .u8 ((0 : Nat) : Int)), .val (.int .u8 ((0 : Nat) : Int)), .val (.int .u8 ((0 : Nat) : Int)), .val (.int .u8 ((0 : Nat) : Int)), .val (.int .u8 ((0 : Nat) : Int)), .val (.int .u8 ((0 : Nat) : Int)), .val (.int .u8 ((0 : Nat) : Int)), .val (.int .u8 ((0 : Nat) : Int)), .val (.int .u8 ((0 : Nat) : Int)), .val (.int .u8 ((0 : Nat) : Int)), .val (.int .u8 ((0 : Nat) : Int)), .val (.int .u8 ((0 : Nat) : Int)), .val (.int .u8 ((0 : Nat) : Int)), .val (.int .u8 ((0 : Nat) : Int)), .val (.int .u8 ((0 : Nat) : Int)), .val (.int .u8 ((0 : Nat) : Int)), .val (.int .u8 ((0 : Nat) : Int)), .val (.int .u8 ((0 : Nat) : Int)), .val (.int .u8 ((0 : Nat) : Int)), .val (.int .u8 ((0 : Nat) : Int)), .val (.int .u8 ((0 : Nat) : Int)), .val (.int .u8 ((0 : Nat) : Int)), .val (.int .u8 ((0 : Nat) : Int)), .val (.int .u8 ((0 : Nat) : Int))]))] [0, 1, 2, 3, 4, 10, 11, 12])
 AGu
def AGs : AE9 := .seq (.seq (.ops [mv_ 19 2,
  po_ 20 (.bin 3 .lss (.t 19) (ci_ 2)),
  mv_ 21 20,
  ⟨some 22, .p (.mov (.t 2)), some ⟨21, false⟩⟩,
  ⟨some 23, .p (.bin 3 .eql (.t 22) (ci_ 10)), some ⟨21, false⟩⟩,
  po_ 24 (.pick (.t 21) (.c (.bool true)) (.t 23)),
  mv_ 25 24,
  ⟨some 26, .p (.mov (.t 2)), some ⟨25, false⟩⟩,
  ⟨some 27, .p (.bin 3 .gtr (.t 26) (ci_ 36)), some ⟨25, false⟩⟩,
  po_ 28 (.pick (.t 25) (.c (.bool true)) (.t 27))] [0, 1, 2, 3, 4, 10, 11, 28])
 (.cond (.t 28)
 (.pops [po_ 29 (.iface 9 (.c (.string (str [115, 116, 114, 99, 111, 110, 118, 58, 32, 105, 108, 108, 101, 103, 97, 108, 32, 65, 112, 112, 101, 110, 100, 73, 110, 116, 47, 70, 111, 114, 109, 97, 116, 73, 110, 116, 32, 98, 97, 115, 101])))),
   ⟨none, .s (.pan (.t 29)), none⟩] [0, 1, 2, 3, 4, 10, 11])
 (.skip)))
 AGw
def AHG : AE9 := .seq (.ops [po_ 10 (.mov (.c (.slice none 0 0))),
  po_ 11 (.mov (.c (.string (str []))))] [0, 1, 2, 3, 4, 10, 11])
 AGs
def AHI : List VR := [.tmp 10, .tmp 11]
theorem AMb : Tryz.f129.body.bind (trC Tryz.prog Tryz.f129.ntmps) = some (er AHG) := by kernel_rfl
theorem AL8 : trR Tryz.prog Tryz.f129.results.toList = some AHI := by kernel_rfl
def AI8 := AE8 AHe.eq_1
def AGm := AE8 AGU.eq_1
def AIR := AE8 AGN.eq_1
def AI4 := AE8 AGS.eq_1
def AIL := AE8 AG8.eq_1
def AJa := AE8 AHa.eq_1
def AIX := AE8 AGV.eq_1
def AIv := AE8 AGq.eq_1
def AIt := AE8 AGx.eq_1
def AIq := AE8 AGr.eq_1
def AIw := AE8 AGy.eq_1
def AIp := AE8 AGu.eq_1
def AIs := AE8 AGw.eq_1
def AIn := AE8 AGs.eq_1
def AKU := AE8 AHG.eq_1
theorem AKZ {K : TV → Prop} {e : Env} {H : List Ob} : res AHI e H K = res [.tmp 10, .tmp 11] e H K := AE7 rfl
def AL6 := AH5 102 Tryz.func129 AMb AL8 rfl

def AHt : AE9 := .seq (.ops [po_ 2 (.mov (.c (.bool false)))] [0])
 (.seq (.ops [mv_ 3 0,
  mv_ 4 0,
  po_ 5 (.bin 3 .sub (.t 4) (ci_ 1)),
  po_ 6 (.bin 3 .and (.t 3) (.t 5)),
  po_ 7 (.bin 3 .eql (.t 6) (ci_ 0)),
  mv_ 2 7] [2])
 (.ret))
def AHs : List VR := [.tmp 2]
theorem AKV : Tryz.f161.body.bind (trC Tryz.prog Tryz.f161.ntmps) = some (er AHt) := by kernel_rfl
theorem ALi : trR Tryz.prog Tryz.f161.results.toList = some AHs := by kernel_rfl
def AJm := AE8 AHt.eq_1
theorem AJL {K : TV → Prop} {e : Env} {H : List Ob} : res AHs e H K = res [.tmp 2] e H K := AE7 rfl
def AKh := AH5 8 Tryz.func161 AKV ALi rfl

def AIg : AE9 := .seq (.ops [po_ 2 (.mov (ci_ 0))] [0])
 (.seq (.cond (.c (.bool false))
 (.seq (.ops [mv_ 3 0,
   po_ 4 (.conv .u32 (.t 3)),
   so_ 5 (.call 176 [.t 4]),
   mv_ 2 5] [2])
  (.ret))
 (.skip))
 (.seq (.ops [mv_ 6 0,
  so_ 7 (.call 177 [.t 6]),
  mv_ 2 7] [2])
 (.ret)))
def AIf : List VR := [.tmp 2]
theorem APa : Tryz.f162.body.bind (trC Tryz.prog Tryz.f162.ntmps) = some (er AIg) := by kernel_rfl
theorem AO4 : trR Tryz.prog Tryz.f162.results.toList = some AIf := by kernel_rfl
def ANG := AE8 AIg.eq_1
theorem ANA {K : TV → Prop} {e : Env} {H : List Ob} : res AIf e H K = res [.tmp 2] e H K := AE7 rfl
def AN1 := AH5 8 Tryz.func162 APa AO4 rfl

def AHz : AE9 := .seq (.seq (.ops [mv_ 3 0,
  po_ 4 (.bin 163 .eql (.t 3) (.c (.int .u64 ((0 : Nat) : Int))))] [0, 4])
 (.cond (.t 4)
 (.seq (.ops [po_ 2 (.mov (ci_ 64))] [2])
  (.ret))
 (.skip)))
 (.seq (.ops [mv_ 5 0,
  mv_ 6 0,
  po_ 7 (.un .neg (.t 6)),
  po_ 8 (.bin 163 .and (.t 5) (.t 7)),
  po_ 9 (.bin 163 .mul (.t 8) (.c (.int .u64 ((285870213051353865 : Nat) : Int)))),
  po_ 10 (.bin 163 .shr (.t 9) (.c (.int .u64 ((58 : Nat) : Int)))),
  po_ 11 (.idxAA 64 1 (.g 9) (.t 10)),
  po_ 12 (.load false 1 (.t 11)),
  po_ 13 (.conv .i64 (.t 12)),
  mv_ 2 13] [2])
 (.ret))
def AH8 : AE9 := .seq (.ops [po_ 2 (.mov (ci_ 0))] [0])
 AHz
def AH7 : List VR := [.tmp 2]
theorem ANm : Tryz.f177.body.bind (trC Tryz.prog Tryz.f177.ntmps) = some (er AH8) := by kernel_rfl
theorem ANQ : trR Tryz.prog Tryz.f177.results.toList = some AH7 := by kernel_rfl
def AKf := AE8 AHz.eq_1
def AMj := AE8 AH8.eq_1
theorem AMh {K : TV → Prop} {e : Env} {H : List Ob} : res AH7 e H K = res [.tmp 2] e H K := AE7 rfl
def AMY := AH5 14 Tryz.func177 ANm ANQ rfl

end Go.Proofs.YtliaddbbmnfioaaGreatDoor

