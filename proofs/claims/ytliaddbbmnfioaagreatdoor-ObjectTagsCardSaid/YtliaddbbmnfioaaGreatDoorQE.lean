/- What the proof of ObjectTagsCard stands on (texts merged; names shortened by a program): part 5. -/
import Derived.Test.YtliaddbbmnfioaaGreatDoorQD
import Derived.ProofKit
import Derived.OpenShut
import Derived.ShutString
import Derived.ChangeOld
import Derived.Below
import Derived.Carry
import Derived.SizedLaws
import Derived.Lib.LaidTab
import Derived.LaidHandle
import Derived.Handed
import Derived.ShapedOpen
import Derived.Shelf.Vars
import Derived.Lib.ItoaNum
import Derived.Lib.ItoaLen
import Derived.Test.YtliaddbbmnfioaaGreatDoorProg
import Derived.KernelRfl
import Derived.Shelf.Strings.Trim
import Derived.Shelf.Small.Utf8
import Derived.Shelf.Small.Bits
import Derived.Shelf.Small.Strs
import Derived.Shelf.Small.Wraps
import Derived.Shelf.Strconv.Itoa0
import Derived.Shelf.Strconv.Itoa1
import Derived.Shelf.LaysM
import Derived.Shelf.Strconv.Itoa2
import Derived.Shelf.Strconv.Itoa3
import Derived.Shelf.Strconv.Itoa4
import Derived.Shelf.Strconv.Clone
import Derived.Shelf.Strconv.SyntaxError
import Derived.Shelf.LaysC
import Derived.Shelf.Strconv.ToError
import Derived.Shelf.Strconv.Lower
import Derived.Shelf.Strconv.ParseUint10
import Derived.Shelf.Strconv.ParseUint10Empty
import Derived.Shelf.Strconv.ParseUint10Any
import Derived.Shelf.Strconv.RangeError
import Derived.Shelf.Strconv.ToErrorRange
import Derived.Shelf.Strings.Search1
import Derived.Shelf.Strings.Search2
import Derived.Shelf.Strings.Search3
import Derived.Shelf.Strings.Cut
import Derived.Shelf.Strings.Shaped
import Derived.Shelf.Strings.Prefix
import Derived.Shelf.Strings.Runes
import Derived.Shelf.Strings.IndexAny
import Derived.Shelf.Strings.AsciiSet
import Derived.Shelf.Strings.IndexAnyAll
import Derived.Shelf.Unicode.DecodeSlow
import Derived.Shelf.Bytes.SlIndexSmall
import Derived.Shelf.Bytes.SlIndexAt
import Derived.Shelf.Bytes.Small
import Derived.Shelf.Bytes.IndexByte
import Derived.WalkKit
import Derived.Lib.BytesEntry
import Derived.Lib.IndexMore
import Derived.Lib.TrimByte
import Derived.Lib.SlTrimSet
namespace Go.Proofs.YtliaddbbmnfioaaGreatDoor
open Go.RowKit Go.WideShapes Go.ChangeShapes
variable [AFG]
set_option linter.unusedSectionVars false
set_option linter.unusedVariables false
set_option linter.unusedSimpArgs false
set_option autoImplicit false

/-- All blocks that are there stay aS they are. -/
def came (w : World) : Ctx := ⟨fun _ _ => none, [], fun b => b < w.heap.size⟩
/-- All data of a type have a reading of this form. -/
def AMW (P : Program) (t : TypeId) {α : Type} (f : α → TV) (ok : α → Prop) : Prop :=
 ∀ {H : Type} (enc : TypeId × Value → H) (w : World) (fuel : Nat) (cs : List Value) (d : DataW H) (ps : List MemPlace),
  DataW.trod enc P w 0 (fun _ => true) true fuel t cs = some (d, ps) → (d.weights P t).all (· ≤ reachBytes) = true → ∃ a, AFh (came w) w (f a) cs ∧ ok a

theorem A6w {α β : Type} {f : α → Option β} : ∀ {l : List α} {xs : List β}, l.mapM f = some xs → xs.length = l.length ∧ ∀ (i : Nat) a, l[i]? = some a → ∃ x, xs[i]? = some x ∧ f a = some x
 | [], xs, h => by simp at h; subst h; simp
 | a :: l, xs, h => by
  rw [List.mapM_cons] at h
  cases hf : f a with
  | none => rw [hf] at h; cases h
  | some y =>
   rw [hf] at h
   cases hl : l.mapM f with
   | none => rw [hl] at h; cases h
   | some ys =>
    rw [hl] at h
    have e : xs = y :: ys := by simpa using h.symm
    subst e
    obtain ⟨h1, h2⟩ := A6w hl
    refine ⟨by simp [h1], fun i b hb => ?_⟩
    cases i with
    | zero => simp at hb; subst hb; exact ⟨y, by simp, hf⟩
    | succ i => simpa using h2 i b (by simpa using hb)
theorem AVI {β : Type} {f : Nat → Option β} {n : Nat} {xs : List β} (h : (List.range n).mapM f = some xs) : xs.length = n ∧ ∀ i, i < n → ∃ x, xs[i]? = some x ∧ f i = some x := by
 obtain ⟨h1, h2⟩ := A6w h
 exact ⟨by simpa using h1, fun i hi => h2 i i (by simp [hi])⟩

section
variable {P : Program} {t e : TypeId}
theorem AYK {H : Type} {enc : TypeId × Value → H} {w : World} {fuel : Nat} {cs : List Value} {x : DataW H × List MemPlace} (h : DataW.trod enc P w 0 (fun _ => true) true fuel t cs = some x) : ∃ n, fuel = n + 1 := by
 cases fuel with
 | zero => simp [DataW.trod] at h
 | succ n => exact ⟨n, rfl⟩

theorem A3Y {k : IntKind} (ht : P.underlying t = some (.int k)) : AMW P t (fun n => .val (.int k n)) (fun n => (Lit.int k n).wf = true) := by
 intro H enc w fuel cs d ps h _
 obtain ⟨n, rfl⟩ := AYK h
 unfold DataW.trod at h; rw [ht] at h
 split at h <;> rename_i h1 <;> try (simp at h1; done)
 all_goals try (cases h; done)
 all_goals try (simp only [Option.some.injEq, TypeDesc.int.injEq] at h1)
 all_goals first
  | (subst h1; split at h; (rename_i hc; obtain ⟨rfl, hw⟩ := hc; cases h; exact ⟨_, by rw [AFh]; exact ⟨rfl, rfl⟩, hw⟩); cases h)
  | (simp at h1; done)
  | (simp at h; done)
theorem AOf (ht : P.underlying t = some .string) : AMW P t (fun l => .val (.string (str l))) (fun l => l.length ≤ 140737488351232) := by
 intro H enc w fuel cs d ps h hw
 obtain ⟨n, rfl⟩ := AYK h
 unfold DataW.trod at h; rw [ht] at h
 split at h <;> rename_i h1 <;> try (simp at h1; done)
 all_goals first
  | (simp at h1; done)
  | (simp at h; done)
  | (simp only [Option.ite_none_right_eq_some, Option.some.injEq, Prod.mk.injEq] at h; obtain ⟨hm, rfl, rfl⟩ := h; refine ⟨bl _, by rw [AFh, BlV]; exact ⟨rfl, rfl⟩, ?_⟩; simp only [DataW.weights, List.all_cons, List.all_nil, Bool.and_true, reachBytes] at hw; exact of_decide_eq_true hw)
end

theorem AP4 {H : Type} {P : Program} {e : TypeId} {d : DataW H} {n : Nat} (hn : n ∈ d.weights P e) : ∀ {ds : List (DataW H)}, d ∈ ds → n ∈ DataW.weightsAll P e ds
 | d0 :: ds, h => by
  simp only [DataW.weightsAll, List.mem_append]
  rcases List.mem_cons.1 h with rfl | h
  ·exact Or.inl hn
  ·exact Or.inr (AP4 hn h)
theorem AL5 {l m : List Nat} (h : m.all (· ≤ reachBytes) = true) (hs : ∀ n ∈ l, n ∈ m) : l.all (· ≤ reachBytes) = true := List.all_eq_true.2 fun n hn => List.all_eq_true.1 h n (hs n hn)

theorem Bi5 (a : Addr) (i j : Nat) : (a.add i).add j = a.add (i + j) := by
 unfold Addr.add
 by_cases h1 : i = 0 <;> by_cases h2 : j = 0 <;> simp [h1, h2, Nat.add_assoc]
theorem Bei (b off i : Nat) : (⟨b, off, none⟩ : Addr).add i = ⟨b, off + i, none⟩ := by
 unfold Addr.add
 by_cases h1 : i = 0 <;> simp [h1]
theorem A9u {w : World} {a : Addr} {n : Nat} {us : List Value} (h : w.cells? 0 a n = some us) : us.length = n ∧ ∀ i, i < n → ∃ u, us[i]? = some u ∧ w.cell? (a.add i) = some u := by
 unfold World.cells? at h
 rw [if_pos (Nat.zero_le _)] at h
 exact AVI h

/-- Elements that lie one behind the other. -/
theorem A57 {α : Type} {f : α → TV} {ok : α → Prop} {k : Nat} (hw : ∀ a, ok a → AFo (f a) = k) {w : World} {b off : Nat} : ∀ (n i0 : Nat), (∀ i, i < n → ∃ us a, AFh (came w) w (f a) us ∧ ok a ∧ us.length = k ∧ AGU w b (off + (i0 + i) * k) us) →
  ∃ (l : List α) (us : List Value), l.length = n ∧ (∀ a ∈ l, ok a) ∧ AFj (came w) w (l.map f) us ∧ us.length = n * k ∧ AGU w b (off + i0 * k) us
 | 0, i0, _ => ⟨[], [], rfl, by simp, by rw [List.map_nil, AFj], by simp, fun j u h => by simp at h⟩
 | n + 1, i0, h => by
  obtain ⟨us, a, h1, h2, h3, h4⟩ := h 0 (by omega)
  obtain ⟨l, vs, k1, k2, k3, k4, k5⟩ := A57 hw n (i0 + 1) (fun i hi => by
   obtain ⟨us, a, h1, h2, h3, h4⟩ := h (i + 1) (by omega)
   exact ⟨us, a, h1, h2, h3, by rw [show i0 + 1 + i = i0 + (i + 1) from by omega]; exact h4⟩)
  refine ⟨a :: l, us ++ vs, by simp [k1], fun c hc => ?_, ?_, ?_, ?_⟩
  ·rcases List.mem_cons.1 hc with rfl | hc
   ·exact h2
   ·exact k2 c hc
  ·rw [List.map_cons, AFj]; exact ⟨us, vs, rfl, h1, k3⟩
  ·rw [List.length_append, h3, k4, Nat.succ_mul, Nat.add_comm]
  ·intro j u hj
   by_cases hjk : j < k
   ·rw [List.getElem?_append_left (by omega)] at hj
    have := h4 j u hj
    rwa [Nat.add_zero] at this
   ·rw [List.getElem?_append_right (by omega), h3] at hj
    have := k5 (j - k) u hj
    rw [show off + (i0 + 1) * k + (j - k) = off + i0 * k + j from by rw [Nat.succ_mul]; omega] at this
    exact this

section
variable {P : Program} {t e : TypeId} {α : Type} {f : α → TV} {ok : α → Prop} {k B : Nat}
theorem A6x (ht : P.underlying t = some (.slice e)) (hk : P.cellsOf e = k) (hB : P.bytesOf e = B) (hc : AMW P e f ok) (hw : ∀ a, ok a → AFo (f a) = k) (h0 : k ≠ 0) :
  AMW P t (fun l : List α => .sl k (l.map f)) (fun l => (∀ a ∈ l, ok a) ∧ l.length * B ≤ 140737488351232 ∧ l.length ≤ 9223372036854775807) := by
 intro H enc w fuel cs d ps h hwt
 obtain ⟨n, rfl⟩ := AYK h
 unfold DataW.trod at h; rw [ht] at h
 split at h <;> rename_i h1 <;> try (simp at h1; done)
 all_goals first
  | (simp at h; done)
  | skip
 ·cases h
  refine ⟨[], ?_, by simp, by simp, by simp⟩
  rw [AFh]; exact ⟨by simp, .inl ⟨rfl, none, 0, rfl, by omega⟩⟩
 ·rename_i a len cap
  simp only [Option.some.injEq, TypeDesc.slice.injEq] at h1
  subst h1
  split at h
  ·rename_i hcond
   obtain ⟨-, hlc, hcm⟩ := hcond
   rw [Option.bind_eq_some_iff] at h
   obtain ⟨elems, he, h⟩ := h
   rw [if_pos rfl, Option.map_eq_some_iff] at h
   obtain ⟨rest, hr, h⟩ := h
   simp only [Prod.mk.injEq] at h
   obtain ⟨rfl, rfl⟩ := h
   obtain ⟨e1, e2⟩ := AVI he
   obtain ⟨r1, _⟩ := AVI hr
   unfold maxLen at hcm
   simp only [DataW.weights, ht, List.all_cons, Bool.and_eq_true, decide_eq_true_eq, reachBytes, List.length_map, e1, r1, hB] at hwt
   have hcapB : cap * B ≤ 140737488351232 := by have := of_decide_eq_true hwt.1; rwa [Nat.add_sub_cancel' hlc] at this
   have hlen : len * B ≤ 140737488351232 := Nat.le_trans (Nat.mul_le_mul_right _ hlc) hcapB
   have hwe : (DataW.weightsAll P e (elems.map (·.1))).all (· ≤ reachBytes) = true := AL5 (m := DataW.weightsAll P e (elems.map (·.1)) ++ DataW.weightsAll P e (rest.map (·.1))) hwt.2 (fun n hn => List.mem_append_left _ hn)
   obtain ⟨b, off, spot⟩ := a
   have key : ∀ i, i < len → ∃ us a, AFh (came w) w (f a) us ∧ ok a ∧ us.length = k ∧ (∀ j u, us[j]? = some u → w.cell? ((⟨b, off, spot⟩ : Addr).add (i * k + j)) = some u) := by
    intro i hi
    obtain ⟨x, hx, hxe⟩ := e2 i hi
    rw [Option.bind_eq_some_iff] at hxe
    obtain ⟨us, hus, htr⟩ := hxe
    rw [hk] at hus
    obtain ⟨c1, c2⟩ := A9u hus
    obtain ⟨a, ha, hok⟩ := hc enc w n us x.1 x.2 htr (AL5 hwe fun m hm => AP4 hm (List.mem_map.2 ⟨x, List.mem_of_getElem? hx, rfl⟩))
    refine ⟨us, a, ha, hok, c1, fun j u hj => ?_⟩
    have hjk : j < k := by rw [← c1]; exact (List.getElem?_eq_some_iff.1 hj).1
    obtain ⟨u', hu', hcu⟩ := c2 j hjk
    rw [hj] at hu'; cases hu'
    rw [Bi5] at hcu
    exact hcu
   by_cases hl0 : len = 0
   ·subst hl0
    refine ⟨[], ?_, by simp, by simp, by simp⟩
    rw [AFh]; exact ⟨by simp, .inl ⟨rfl, _, cap, rfl, hcm⟩⟩
   ·have hsp : spot = none := by
     obtain ⟨us, a, _, _, c1, c2⟩ := key 0 (by omega)
     have hu : us[0]? = some us[0] := List.getElem?_eq_getElem (by omega)
     have := c2 0 _ hu
     simpa [Addr.add] using World.cell?_spot this
    subst hsp
    obtain ⟨l, us, l1, l2, l3, l4, l5⟩ := A57 (f := f) (ok := ok) hw (w := w) (b := b) (off := off) len 0 (fun i hi => by
     obtain ⟨us, a, h1, h2, h3, h4⟩ := key i hi
     refine ⟨us, a, h1, h2, h3, fun j u hj => ?_⟩
     have := h4 j u hj
     rw [Bei] at this
     rw [Nat.zero_add, Nat.add_assoc]; exact this)
    refine ⟨l, ?_, l2, by rw [l1]; exact hlen, by omega⟩
    rw [AFh]
    refine ⟨fun x hx => ?_, .inr ⟨b, off, cap, us, by rw [List.length_map, l1], by rw [List.length_map, l1]; exact hlc, hcm, ?_, l3, by simpa using l5⟩⟩
    ·obtain ⟨a, ha, rfl⟩ := List.mem_map.1 hx; exact hw a (l2 a ha)
    ·have hus : 0 < us.length := by rw [l4]; exact Nat.mul_pos (by omega) (by omega)
     exact BgV (l5 0 us[0] (List.getElem?_eq_getElem hus))
  ·cases h
end
section
variable {P : Program} {t e : TypeId} {α : Type} {f : α → TV} {ok : α → Prop} {k : Nat}
theorem AOk {β : Type} {g : β → TV} {ok' : β → Prop} (h : AMW P t f ok) (hm : ∀ a, ok a → ∃ b, f a = g b ∧ ok' b) : AMW P t g ok' := by
 intro H enc w fuel cs d ps h1 h2
 obtain ⟨a, h3, h4⟩ := h enc w fuel cs d ps h1 h2
 obtain ⟨b, h5, h6⟩ := hm a h4
 exact ⟨b, by rw [← h5]; exact h3, h6⟩
theorem A6m (ht : P.underlying t = some (.int .u8)) : AMW P t by8 (fun _ => True) :=
 AOk (A3Y ht) fun n h => by
  have := bounds_u8 h
  refine ⟨UInt8.ofNat n.toNat, ?_, trivial⟩
  rw [by8, UInt8.toNat_ofNat', Nat.mod_eq_of_lt (by omega)]
  congr 2; omega
theorem A0h (ht : P.underlying t = some (.int .i64)) : AMW P t i64 (fun n => -9223372036854775808 ≤ n ∧ n ≤ 9223372036854775807) :=
 AOk (A3Y ht) fun n h => ⟨n, rfl, by have := bounds_i64 h; omega⟩
/-- A slice of bytes. -/
theorem A6I (ht : P.underlying t = some (.slice e)) (he : P.underlying e = some (.int .u8)) (hk : P.cellsOf e = 1) (hB : P.bytesOf e = 1) : AMW P t slB (fun l => l.length ≤ 140737488351232) :=
 AOk (A6x ht hk hB (A6m he) (fun _ _ => rfl) (by omega)) fun l h => ⟨l, rfl, by have := h.2; omega⟩
theorem Bg6 {H : Type} {P : Program} {e : TypeId} {parts : List (DataW H)} (h : (DataW.weightsAll P e parts).all (· ≤ reachBytes) = true) {d : DataW H} (hd : d ∈ parts) : (d.weights P e).all (· ≤ reachBytes) = true :=
 AL5 h fun n hn => AP4 hn hd
/-- Elements cut out of a row. -/
theorem A8J {w : World} (hw : ∀ a, ok a → AFo (f a) = k) : ∀ (n i0 : Nat) (cs : List Value), cs.length = n * k → (∀ i, i < n → ∃ a, AFh (came w) w (f a) ((cs.drop (i * k)).take k) ∧ ok a) →
  ∃ l : List α, l.length = n ∧ (∀ a ∈ l, ok a) ∧ AFj (came w) w (l.map f) cs
 | 0, i0, cs, hl, _ => ⟨[], rfl, by simp, by rw [List.map_nil, AFj]; exact List.length_eq_zero_iff.1 (by simpa using hl)⟩
 | n + 1, i0, cs, hl, h => by
  obtain ⟨a, h1, h2⟩ := h 0 (by omega)
  rw [Nat.zero_mul, List.drop_zero] at h1
  rw [Nat.succ_mul] at hl
  obtain ⟨l, k1, k2, k3⟩ := A8J hw n 0 (cs.drop k) (by rw [List.length_drop]; omega) (fun i hi => by
   obtain ⟨a, h1, h2⟩ := h (i + 1) (by omega)
   exact ⟨a, by rw [List.drop_drop]; rw [Nat.succ_mul, Nat.add_comm] at h1; exact h1, h2⟩)
  refine ⟨a :: l, by simp [k1], fun c hc => ?_, ?_⟩
  ·rcases List.mem_cons.1 hc with rfl | hc
   ·exact h2
   ·exact k2 c hc
  ·rw [List.map_cons, AFj]
   exact ⟨cs.take k, cs.drop k, (List.take_append_drop k cs).symm, h1, k3⟩
theorem A6p {n : Nat} (ht : P.underlying t = some (.array n e)) (hk : P.cellsOf e = k) (hn : P.cellsOf t = n * k) (hc : AMW P e f ok) (hw : ∀ a, ok a → AFo (f a) = k) :
  AMW P t (fun l : List α => .arr n k (l.map f)) (fun l => l.length = n ∧ ∀ a ∈ l, ok a) := by
 intro H enc w fuel cs d ps h hwt
 obtain ⟨m, rfl⟩ := AYK h
 unfold DataW.trod at h; rw [ht] at h
 split at h <;> rename_i h1 <;> try (simp at h1; done)
 all_goals first
  | (simp at h; done)
  | exact ((‹∀ (n_1 : Nat) (e_1 : TypeId), some (TypeDesc.array n e) = some (TypeDesc.array n_1 e_1) → False› : ∀ (n_1 : Nat) (e_1 : TypeId), some (TypeDesc.array n e) = some (TypeDesc.array n_1 e_1) → False) n e rfl).elim
  | skip
 cases h1
 split at h
 ·rename_i hlen
  rw [Option.map_eq_some_iff] at h
  obtain ⟨xs, hx, h⟩ := h
  simp only [Prod.mk.injEq] at h
  obtain ⟨rfl, rfl⟩ := h
  obtain ⟨e1, e2⟩ := AVI hx
  simp only [DataW.weights, ht] at hwt
  rw [hn] at hlen
  obtain ⟨l, l1, l2, l3⟩ := A8J (f := f) (ok := ok) (w := w) hw _ 0 _ hlen (fun i hi => by
   obtain ⟨x, hx, hxe⟩ := e2 i hi
   rw [hk] at hxe
   obtain ⟨a, ha, hok⟩ := hc enc w m _ x.1 x.2 hxe (Bg6 hwt (List.mem_map.2 ⟨x, List.mem_of_getElem? hx, rfl⟩))
   exact ⟨a, ha, hok⟩)
  refine ⟨l, ?_, l1, l2⟩
  rw [AFh]
  refine ⟨by rw [List.length_map, l1], fun x hx => ?_, l3⟩
  obtain ⟨a, ha, rfl⟩ := List.mem_map.1 hx; exact hw a (l2 a ha)
 ·cases h
end

def A5d (P : Program) (off : Nat) (fs : List Field) {α : Type} (f : α → List TV) (ok : α → Prop) : Prop :=
 ∀ {H : Type} (enc : TypeId × Value → H) (w : World) (fuel : Nat) (cs : List Value) (xs : List (DataW H × List MemPlace)),
  (fs.mapM fun fd => DataW.trod enc P w 0 (fun _ => true) true fuel fd.type ((cs.drop fd.offset).take (P.cellsOf fd.type))) = some xs → (DataW.weightsEach P (fs.map (·.type)) (xs.map (·.1))).all (· ≤ reachBytes) = true →
  cs.length = off + (fs.map fun fd => P.cellsOf fd.type).sum → ∃ a, AFj (came w) w (f a) (cs.drop off) ∧ ok a
theorem A2h {P : Program} {off : Nat} : A5d P off [] (fun _ : Unit => []) (fun _ => True) := by
 intro H enc w fuel cs xs _ _ hl
 refine ⟨(), ?_, trivial⟩
 rw [AFj]; exact List.drop_eq_nil_of_le (by simp at hl; omega)
theorem AHP {P : Program} {off n : Nat} {fd : Field} {fs : List Field} {α β : Type} {f : α → TV} {ok : α → Prop} {g : β → List TV} {ok' : β → Prop} (h0 : fd.offset = off) (hn : P.cellsOf fd.type = n) (hc : AMW P fd.type f ok) (hr : A5d P (off + n) fs g ok') :
  A5d P off (fd :: fs) (fun x : α × β => f x.1 :: g x.2) (fun x => ok x.1 ∧ ok' x.2) := by
 intro H enc w fuel cs xs hx hw hl
 rw [List.mapM_cons] at hx
 cases h1 : DataW.trod enc P w 0 (fun _ => true) true fuel fd.type ((cs.drop fd.offset).take (P.cellsOf fd.type)) with
 | none => rw [h1] at hx; cases hx
 | some y =>
  rw [h1] at hx
  cases h2 : (fs.mapM fun fd => DataW.trod enc P w 0 (fun _ => true) true fuel fd.type ((cs.drop fd.offset).take (P.cellsOf fd.type))) with
  | none => rw [h2] at hx; cases hx
  | some ys =>
   rw [h2] at hx
   have e : xs = y :: ys := by simpa using hx.symm
   subst e
   simp only [List.map_cons, DataW.weightsEach] at hw
   obtain ⟨a, ha, hoka⟩ := hc enc w fuel _ y.1 y.2 h1 (AL5 hw fun n hn => List.mem_append_left _ hn)
   obtain ⟨b, hb, hokb⟩ := hr enc w fuel cs ys h2 (AL5 hw fun n hn => List.mem_append_right _ hn) (by simp [hn] at hl ⊢; omega)
   refine ⟨(a, b), ?_, hoka, hokb⟩
   rw [AFj]
   refine ⟨(cs.drop off).take n, cs.drop (off + n), ?_, by rw [← h0, ← hn]; exact ha, hb⟩
   rw [← List.drop_drop, List.take_append_drop]
theorem AZm {P : Program} {t : TypeId} {fs : Array Field} {α : Type} {f : α → List TV} {ok : α → Prop} (ht : P.underlying t = some (.struct fs)) (hn : P.cellsOf t = (fs.toList.map fun fd => P.cellsOf fd.type).sum) (hc : A5d P 0 fs.toList f ok) :
  AMW P t (fun a => .agg (f a)) ok := by
 intro H enc w fuel cs d ps h hwt
 obtain ⟨m, rfl⟩ := AYK h
 unfold DataW.trod at h; rw [ht] at h
 split at h <;> rename_i h1 <;> try (simp at h1; done)
 all_goals first
  | (simp at h; done)
  | exact ((‹∀ (fs_1 : Array Field), some (TypeDesc.struct fs) = some (TypeDesc.struct fs_1) → False› : ∀ (fs_1 : Array Field), some (TypeDesc.struct fs) = some (TypeDesc.struct fs_1) → False) fs rfl).elim
  | skip
 cases h1
 split at h
 ·rename_i hlen
  rw [Option.map_eq_some_iff] at h
  obtain ⟨xs, hx, h⟩ := h
  simp only [Prod.mk.injEq] at h
  obtain ⟨rfl, rfl⟩ := h
  simp only [DataW.weights, ht] at hwt
  obtain ⟨a, ha, hok⟩ := hc enc w m _ xs hx hwt (by rw [hlen, hn, Nat.zero_add])
  exact ⟨a, by rw [AFh]; rw [List.drop_zero] at ha; exact ha, hok⟩
 ·cases h

def AZo (P : Program) (ts : List TypeId) {α : Type} (f : α → List TV) (ok : α → Prop) : Prop :=
 ∀ {H : Type} (enc : TypeId × Value → H) (w : World) (vs : List Value) (ds : List (DataW H)) (ps : List MemPlace),
  DataW.TrodAll enc P w 0 (fun _ => true) true ts vs ds ps → (∀ (j : Nat) t v, ts[j]? = some t → vs[j]? = some v → ∃ base, Value.okWide P w .any base t v) → (DataW.weightsEach P ts ds).all (· ≤ reachBytes) = true → ∃ a, AF9 (came w) w (f a) vs ∧ ok a
theorem A4r {P : Program} : AZo P [] (fun _ : Unit => []) (fun _ => True) := by
 intro H enc w vs ds ps h _ _
 obtain ⟨rfl, rfl, rfl⟩ := trodAll_nil h
 exact ⟨(), by rw [AF9], trivial⟩
/-- A value of a type is what its cells make of it. -/
def A8l (P : Program) (t : TypeId) (b : Bool) : Prop := ∀ w base v, Value.okWide P w .any base t v → if b then ∃ cs, v = .agg cs else v.cells = #[v]
theorem A6f {P : Program} {t e : TypeId} (ht : P.underlying t = some (.slice e)) : A8l P t false := fun w _ v h => by obtain ⟨_, _, _, rfl⟩ := okWide_slice ht h; rfl
theorem A5o {P : Program} {t : TypeId} {fs : Array Field} (ht : P.underlying t = some (.struct fs)) : A8l P t true := fun w _ v h => by obtain ⟨cs, rfl, _⟩ := okWide_struct ht h; exact ⟨cs, rfl⟩
theorem Bbp {c : Ctx} {P : Program} {w : World} {t : TypeId} {v : Value} {x : TV} {b : Bool} (hf : A8l P t b) {base : Nat} (hv : Value.okWide P w .any base t v) (hx : AZ5 x = b) : v = mkV x v.cells.toList := by
 have h := hf w base v hv
 cases b with
 | true =>
  simp only [if_true] at h
  obtain ⟨cs, rfl⟩ := h
  rw [A8O hx]; simp [Value.cells]
 | false =>
  simp only [Bool.false_eq_true, if_false] at h
  rw [h]
  exact (A12 hx).symm
theorem AWG {P : Program} {t : TypeId} {ts : List TypeId} {α β : Type} {f : α → TV} {ok : α → Prop} {g : β → List TV} {ok' : β → Prop} {b : Bool} (hc : AMW P t f ok) (hf : A8l P t b) (hm : ∀ a, AZ5 (f a) = b) (hr : AZo P ts g ok') :
  AZo P (t :: ts) (fun x : α × β => f x.1 :: g x.2) (fun x => ok x.1 ∧ ok' x.2) := by
 intro H enc w vs ds ps h hv hw
 obtain ⟨v, vs', d, ds', p, q, rfl, rfl, rfl, h0, r0⟩ := trodAll_cons h
 simp only [DataW.weightsEach] at hw
 obtain ⟨fuel, hfu⟩ := h0
 obtain ⟨a, ha, hoka⟩ := hc enc w fuel _ d p hfu (AL5 hw fun n hn => List.mem_append_left _ hn)
 obtain ⟨b, hb, hokb⟩ := hr enc w vs' ds' q r0 (fun j t v h1 h2 => hv (j + 1) t v (by simpa using h1) (by simpa using h2)) (AL5 hw fun n hn => List.mem_append_right _ hn)
 refine ⟨(a, b), AF9.cons.2 ⟨v, vs', rfl, .inr (.inr ⟨v.cells.toList, ha, Bbp (c := came w) hf (hv 0 t v rfl rfl).choose_spec (hm a)⟩), hb⟩, hoka, hokb⟩

/-- All that came in reads aS it did. -/
theorem AZt {H : Type} {enc : TypeId × Value → H} {P : Program} (hl : laidOutB P = true) {W W' : World} (hb : Below W.heap.size W W') : ∀ {ts : List TypeId} {vs : List Value} {ds : List (DataW H)} {ps : List MemPlace}, (ts.all fun t => P.readableRec t && decide (t < P.types.size)) = true →
  DataW.TrodAll enc P W 0 (fun _ => true) true ts vs ds ps → DataW.TrodAll enc P W' 0 (fun b => decide (b < W.heap.size)) true ts vs ds ps
 | [], vs, ds, ps, _, h => by
  obtain ⟨rfl, rfl, rfl⟩ := trodAll_nil h
  exact trodAll_mk0
 | t :: ts, vs, ds, ps, hr, h => by
  obtain ⟨v, vs', d, ds', p, q, rfl, rfl, rfl, h0, r0⟩ := trodAll_cons h
  simp only [List.all_cons, Bool.and_eq_true, decide_eq_true_eq] at hr
  refine trodAll_cons_mk (Below.trod hl hr.1.1 hr.1.2 h0 hb ?_) (AZt hl hb (by simpa using hr.2) r0)
  obtain ⟨m, hm⟩ := h0
  exact DataW.trod_lt m _ _ _ hm

theorem ATn.below {F F' : Nat → Prop} {w w' : World} (h : ATn F w F' w') : Below w.heap.size w w' := ⟨h.os, h.tape, h.output, h.size, fun k hk => h.same k hk⟩
/-- THE WALK OF A STATEMENT, out of what the machine of values says of it. -/
theorem BlN {P : Program} {f : FuncId} {ts : List TypeId} {α : Type} {g : α → List TV} {ok : α → Prop} (hc : AZo P ts g ok) (hlaw : ∀ a, ok a → AFE P f (g a) (fun x => x = tb true)) {H : Type} {enc : TypeId × Value → H} {w : World} {args : Array Value} {ds : List (DataW H)} {ps : List MemPlace}
  (h : DataW.TrodAll enc P w 0 (fun _ => true) true ts args.toList ds ps) (hv : ∀ (j : Nat) t v, ts[j]? = some t → args.toList[j]? = some v → ∃ base, Value.okWide P w .any base t v) (hw : (DataW.weightsEach P ts ds).all (· ≤ reachBytes) = true) (hg : AJB (fun b => b < w.heap.size) w) :
  Calls P f args w fun e w' => e = .returned (.bool true) ∧ Below w.heap.size w w' := by
 obtain ⟨a, ha, hok⟩ := hc enc w args.toList ds ps h hv hw
 have := hlaw a hok (fun _ _ => none) (fun b => b < w.heap.size) w args.toList ⟨fun b h => h, hg⟩ ha
 rw [Array.toArray_toList] at this
 refine this.mono ?_
 rintro e w' ⟨v, x, F', rfl, rfl, hx, hst⟩
 rw [Rep.val] at hx
 exact ⟨by rw [hx], hst.below⟩
end Go.Proofs.YtliaddbbmnfioaaGreatDoor


namespace Go.Proofs.YtliaddbbmnfioaaGreatDoor
open Go.RowKit
variable [AFG]
set_option linter.unusedSectionVars false
set_option linter.unusedVariables false

theorem A9o {g : Nat} {x : GV} (h : AKT g = some x) : (g, x) ∈ AFG.l := by
 unfold AKT at h
 obtain ⟨p, hp, rfl⟩ := Option.map_eq_some_iff.1 h
 have h1 := List.mem_of_find?_eq_some hp
 have h2 := List.find?_some hp
 have h3 : p.1 = g := by simpa using h2
 obtain ⟨a, b⟩ := p
 simp only at h3; subst h3; exact h1
section
omit [AFG]
theorem A5l {P : Program} {w : World} {name : String} {g : Nat} {cs : Array Value} (hg : P.globalNamed name = some g) (h : w.var? P name = some cs) : ∃ t fr, w.heap[g]? = some (.cells cs t fr) := by
 unfold World.var? at h
 rw [hg, Option.bind_some] at h
 split at h
 ·rename_i c t fr hh; cases h; exact ⟨t, fr, hh⟩
 ·cases h
/-- A number's or a text's type. -/
def BdL (P : Program) (t : TypeId) : Bool := match P.underlying t with
 | some (.int _) => true
 | some .string => true
 | _ => false
def BmF : DataW Unit → Option Value
 | .lit (.int k n) => some (.int k n)
 | .lit (.string l) => some (.string ⟨l.toArray⟩)
 | _ => none
variable {P : Program} {w : World} {fuel : Nat} {cs : List Value}
theorem A7i {t : TypeId} {x : DataW Unit × List MemPlace} (ht : BdL P t = true) (h : DataW.trod (fun _ => ()) P w 0 (fun _ => true) false fuel t cs = some x) : ∃ v, BmF x.1 = some v ∧ cs = [v] := by
 unfold BdL at ht
 split at ht
 ·rename_i k hk
  obtain ⟨n, rfl, rfl, _⟩ := DataW.trod_int hk h
  exact ⟨_, rfl, rfl⟩
 ·rename_i hk
  obtain ⟨s, rfl, rfl, _⟩ := DataW.trod_string hk h
  exact ⟨_, rfl, by simp⟩
 ·cases ht
theorem A7U {t e : TypeId} {n : Nat} {ds : List (DataW Unit)} {p : List MemPlace} {vs : List Value} (ht : P.underlying t = some (.array n e)) (he : BdL P e = true) (hce : P.cellsOf e = 1) (hct : P.cellsOf t = n) (hv : ds.map BmF = vs.map some)
  (h : DataW.trod (fun _ => ()) P w 0 (fun _ => true) false fuel t cs = some (.agg ds, p)) : cs = vs := by
 cases fuel with
 | zero => simp [DataW.trod] at h
 | succ fuel =>
  simp only [DataW.trod, ht, hce, hct, Nat.mul_one] at h
  split at h
  ·rename_i hl
   obtain ⟨xs, hm, hx⟩ := Option.map_eq_some_iff.1 h
   have hxs : xs.map (·.1) = ds := by
    have := congrArg Prod.fst hx
    simpa using this
   have hxl : xs.length = n := by simpa using Lib.mapM_length hm
   have hvl : vs.length = n := by
    have h1 := congrArg List.length hxs
    have h2 := congrArg List.length hv
    simp at h1 h2
    omega
   apply List.ext_getElem?
   intro i
   by_cases hi : i < n
   ·obtain ⟨b, hb, hf⟩ := Lib.mapM_at hm i i (by simp [hi])
    obtain ⟨v, hv1, hv2⟩ := A7i he hf
    have h1 : cs[i]? = some v := by
     have := congrArg (·[0]?) hv2
     simpa [List.getElem?_take, List.getElem?_drop] using this
    have h2 : ds[i]? = some b.1 := by rw [← hxs]; simp [hb]
    have h3 : (ds.map BmF)[i]? = some (some v) := by simp [h2, hv1]
    rw [hv] at h3
    simp only [List.getElem?_map, Option.map_eq_some_iff, Option.some.injEq] at h3
    obtain ⟨u, hu, rfl⟩ := h3
    rw [h1, hu]
   ·rw [List.getElem?_eq_none (by omega), List.getElem?_eq_none (by omega)]
  ·cases h
theorem A8R {name : String} {d : DataW Unit} : ∀ {laid : List (String × DataW Unit)} {ps : List MemPlace}, DataW.LaidVars P w laid ps → (name, d) ∈ laid →
  ∃ g t cs fuel p, P.globalNamed name = some g ∧ (P.globals[g]?).map (·.type) = some t ∧ w.var? P name = some cs ∧ DataW.trod (fun _ => ()) P w 0 (fun _ => true) false fuel t cs.toList = some (d, p)
 | [], ps, _, hm => by simp at hm
 | (n, d') :: r, ps, h, hm => by
  obtain ⟨g, t, cs, fuel, p, q, h1, h2, h3, h4, h5, _⟩ := h
  rcases List.mem_cons.1 hm with e | hm
  ·cases e; exact ⟨g, t, cs, fuel, p, h1, h2, h3, h4⟩
  ·exact A8R h5 hm
/-- A laid array A4q there. -/
theorem A1Y {laid : List (String × DataW Unit)} (h : laidMet P laid w) {name : String} {ds : List (DataW Unit)} (hm : (name, DataW.agg ds) ∈ laid) {g : Nat} {t e : TypeId} {n : Nat} {vs : List Value} (hg : P.globalNamed name = some g) (hty : (P.globals[g]?).map (·.type) = some t)
  (ht : P.underlying t = some (.array n e)) (he : BdL P e = true) (hce : P.cellsOf e = 1) (hct : P.cellsOf t = n) (hv : ds.map BmF = vs.map some) : ∃ tt fr, w.heap[g]? = some (.cells vs.toArray tt fr) := by
 obtain ⟨ps, h, _⟩ := h
 obtain ⟨g', t', cs, fuel, p, h1, h2, h3, h4⟩ := A8R h hm
 obtain rfl := Option.some.inj (hg.symm.trans h1)
 obtain rfl := Option.some.inj (hty.symm.trans h2)
 have := A7U ht he hce hct hv h4
 have e : cs = vs.toArray := by rw [← this, Array.toArray_toList]
 rw [e] at h3
 exact A5l hg h3
end
end Go.Proofs.YtliaddbbmnfioaaGreatDoor


namespace Go.Proofs.YtliaddbbmnfioaaGreatDoor
open Go.RowKit Go.WideShapes Go.ChangeShapes
section
variable {H : Type} {enc : TypeId × Value → H}
theorem A0c {a : Assume} {C : Checked} {os : Os} {f : FuncId} {fn : Func} {s : ChangeSpec} {conds : List PathCond} {apart fresh handsOn again : Bool} {X : World → Array Value → Prop}
  (hX : ∀ (w w' : World) (args : Array Value), w.heap = w'.heap → X w args → X w' args)
  (own : ownKnob C.prog.godebug = none) (started : os.Started) (noInit : C.prog.inits.idxOf? f = none) (hfn : C.prog.funcs[f]? = some fn)
  (witness : ∃ (w : World) (tape : Tape) (i : Input), w.os = os ∧ (w.forCall tape i).Shaped C.prog ∧ i.vars = [] ∧ Input.okWide C.prog (w.forCall tape i) .any w.heap.size f i ∧
   ((s.pre enc C.prog fn conds apart (w.forCall tape i).memory i.args ∧ X (w.forCall tape i).memory i.args) ∧ sizedMet enc C.prog fn (OpenSpec.ofChange s) apart (w.forCall tape i).memory i.args) ∧ a.holds C.prog (lone (Frame.enter C.prog f i.args .normal) [] (w.forCall tape i)))
  (contract : ∀ (W : World) (base : Nat) (args : Array Value) (ds gs : List (DataW H)) (before : List MemPlace),
   (∀ (j : Nat) t v, fn.params[j]? = some t → args[j]? = some v → Value.okWide C.prog W .any base t v) →
   DataW.Whole enc C.prog fn.params.toList s.vars apart W args.toList ds gs before →
   conds.all (PathCond.test C.prog ⟨fn.params.toList, ds, s.plain.varTypes C.prog, gs⟩) = true →
   (DataW.weightsEach C.prog (fn.params.toList ++ s.plain.varTypes C.prog) (ds ++ gs)).all (· ≤ reachBytes) = true → X W args →
   W.ShapedOpen C.prog →
   a.holds C.prog (lone (Frame.enter C.prog f args .normal) [] W) →
   Calls C.prog f args W fun e W' => ∃ v, e = .returned v ∧ s.post enc C.prog fn apart fresh handsOn again W args v W') :
  ReturnsInHanded a C os f .any (fun w args => (s.pre enc C.prog fn conds apart w args ∧ X w args) ∧ sizedMet enc C.prog fn (OpenSpec.ofChange s) apart w args) (s.post enc C.prog fn apart fresh handsOn again) := by
 refine returnsInHanded_of_calls own started noInit witness ?_
 intro w tape i _ hsh _ hok hpre hholds
 obtain ⟨_, _, _, fn', hfn', _, _, _, _, hval⟩ := hok
 have e : fn' = fn := Option.some.inj (hfn'.symm.trans hfn)
 subst e
 obtain ⟨⟨⟨ds, gs, before, hw, hc⟩, hx⟩, hz⟩ := hpre
 have hw' := DataW.Whole.of_heap (w' := w.forCall tape i) (by rfl) hw
 refine (contract (w.forCall tape i) w.heap.size i.args ds gs before hval hw' hc (hz.weights hw) (hX _ _ _ (by rfl) hx) hsh hholds).mono fun e W' ⟨v, he, hp⟩ => ?_
 subst he
 exact ChangeSpec.post_blind hp
end
/-- A number's variable: its block. -/
theorem A4A {P : Program} {w : World} {g : Nat} {t : TypeId} {zero : Array Value} {k : IntKind} (h : w.ShapedOpen P) (hg : g < P.globals.size)
  (h0 : ((begin P (fun _ _ => 0) default).world.heap[g]?).bind Obj.row? = some (zero, t)) (hz : zero.size = 1)
  (hb : P.buildable t = true) (hc : P.cellTypes P.depth t = some [t]) (hu : P.underlying t = some (.int k)) : ∃ m tt fr, w.heap[g]? = some (.cells #[.int k m] tt fr) := by
 obtain ⟨m, hm⟩ := cell_of_shapedOpen_int h hg h0 hz hb hc hu
 obtain ⟨cs, hh, hs, _⟩ := h.1 g zero t hg h0
 have h1 : cs[0]? = some (.int k m) := by simpa [World.cell?, hh] using hm
 have e : cs = #[.int k m] := by
  apply Array.ext
  ·rw [hs, hz]; rfl
  ·intro i h2 h3
   have hi : i = 0 := by simpa using h3
   subst hi
   have := (Array.getElem?_eq_some_iff.1 h1).2
   simpa using this
 rw [e] at hh
 exact ⟨m, _, _, hh⟩
end Go.Proofs.YtliaddbbmnfioaaGreatDoor


namespace Go.Proofs.YtliaddbbmnfioaaGreatDoor
open Go.RowKit
variable [AFG]
set_option linter.unusedSectionVars false
set_option linter.unusedVariables false
set_option linter.unusedSimpArgs false
set_option autoImplicit false

/-- The last k decimal digits. -/
def dgs : Nat → Nat → List UInt8
 | 0, _ => []
 | k + 1, v => dgs k (v / 10) ++ [UInt8.ofNat (48 + v % 10)]
theorem A7Q : ∀ (k v : Nat), (dgs k v).length = k
 | 0, _ => rfl
 | k + 1, v => by rw [dgs, List.length_append, A7Q k]; rfl
theorem AUs : ∀ (k m v : Nat), dgs (m + k) v = dgs m (v / 10 ^ k) ++ dgs k v
 | 0, m, v => by simp [dgs]
 | k + 1, m, v => by rw [← Nat.add_assoc, dgs, dgs, AUs k m, Nat.div_div_eq_div_mul, Nat.pow_succ, Nat.mul_comm 10, List.append_assoc]
theorem AUc (v : Nat) : dgs 2 v = [UInt8.ofNat (48 + v % 100 / 10), UInt8.ofNat (48 + v % 100 % 10)] := by
 simp only [dgs, List.nil_append, List.cons_append]
 rw [show v / 10 % 10 = v % 100 / 10 by omega, show v % 10 = v % 100 % 10 by omega]
theorem A7H (v : Nat) : dgs 1 v = [UInt8.ofNat (48 + v % 10)] := by simp [dgs]
theorem BaV : ∀ (u : Nat), dgs (Lib.nDigits u) u = Lib.decDigits u := by
 intro u
 induction u using Nat.strongRecOn with
 | _ u ih =>
  by_cases h : u < 10
  ·rw [Lib.nDigits_small h, Lib.decDigits_one h, A7H, Nat.mod_eq_of_lt h]
  ·rw [Lib.nDigits_big h, dgs, ih (u / 10) (by omega), Lib.decDigits.eq_1 u, dif_neg h]
theorem A9w : ∀ (u : Nat), u < 10 ^ Lib.nDigits u := by
 intro u
 induction u using Nat.strongRecOn with
 | _ u ih =>
  by_cases h : u < 10
  ·rw [Lib.nDigits_small h]; omega
  ·have := ih (u / 10) (by omega)
   rw [Lib.nDigits_big h, Nat.pow_succ]; omega
end Go.Proofs.YtliaddbbmnfioaaGreatDoor


namespace Go.Proofs.YtliaddbbmnfioaaGreatDoor
open Go.RowKit
variable [AFG]
set_option linter.unusedSectionVars false
set_option linter.unusedVariables false
section
variable {t : TypeId} {a b : Nat} {k2 : IntKind}
theorem A52 {n : Nat} (h : n < 4294967296) : IntKind.u32.wrap (n : Int) = n := by rw [IntKind.wrap_u32']; omega
end
end Go.Proofs.YtliaddbbmnfioaaGreatDoor


namespace Go.Proofs.YtliaddbbmnfioaaGreatDoor
open Go.RowKit
variable [AFG]
set_option linter.unusedSectionVars false
set_option linter.unusedVariables false
section
variable {t : TypeId} {a b : Nat} {k2 : IntKind}
theorem ASH {n : Nat} (h : n < 18446744073709551616) : IntKind.u64.wrap (n : Int) = n := by rw [IntKind.wrap_u64]; omega
theorem A8c (h : b ≠ 0) (h1 : a < 18446744073709551616) : AHA t .quo (.int .u64 (a : Int)) (.int .u64 (b : Int)) = some (.int .u64 ((a / b : Nat) : Int)) := by
 have e : binOp .quo t (.int .u64 (a : Int)) (.int .u64 (b : Int)) = pure (.int .u64 ((a / b : Nat) : Int)) := by
  unfold binOp
  simp only [ne_eq, not_true_eq_false, if_false, Op.intDiv, show ¬ (b : Int) = 0 from by omega, Int.tdiv_eq_ediv_of_nonneg (show (0 : Int) ≤ (a : Int) by omega)]
  rw [show (a : Int) / (b : Int) = ((a / b : Nat) : Int) from rfl, ASH (Nat.lt_of_le_of_lt (Nat.div_le_self _ _) h1)]
 unfold AHA; rw [e]; rfl
theorem A4R (h : b ≠ 0) (h1 : a < 4294967296) : AHA t .quo (.int .u32 (a : Int)) (.int .u32 (b : Int)) = some (.int .u32 ((a / b : Nat) : Int)) := by
 have e : binOp .quo t (.int .u32 (a : Int)) (.int .u32 (b : Int)) = pure (.int .u32 ((a / b : Nat) : Int)) := by
  unfold binOp
  simp only [ne_eq, not_true_eq_false, if_false, Op.intDiv, show ¬ (b : Int) = 0 from by omega, Int.tdiv_eq_ediv_of_nonneg (show (0 : Int) ≤ (a : Int) by omega)]
  rw [show (a : Int) / (b : Int) = ((a / b : Nat) : Int) from rfl, A52 (Nat.lt_of_le_of_lt (Nat.div_le_self _ _) h1)]
 unfold AHA; rw [e]; rfl
theorem A5f (h1 : a * b < 4294967296) : AHA t .mul (.int .u32 (a : Int)) (.int .u32 (b : Int)) = some (.int .u32 ((a * b : Nat) : Int)) := by
 rw [show AHA t .mul (.int .u32 (a : Int)) (.int .u32 (b : Int)) = some (.int .u32 (IntKind.u32.wrap ((a : Int) * (b : Int)))) from rfl, show (a : Int) * (b : Int) = ((a * b : Nat) : Int) from rfl, A52 h1]
theorem ASI (h1 : a + b < 4294967296) : AHA t .add (.int .u32 (a : Int)) (.int .u32 (b : Int)) = some (.int .u32 ((a + b : Nat) : Int)) := by
 rw [show AHA t .add (.int .u32 (a : Int)) (.int .u32 (b : Int)) = some (.int .u32 (IntKind.u32.wrap ((a : Int) + (b : Int)))) from rfl, show (a : Int) + (b : Int) = ((a + b : Nat) : Int) from by omega, A52 h1]
theorem A4x (h1 : a * b < 18446744073709551616) : AHA t .mul (.int .u64 (a : Int)) (.int .u64 (b : Int)) = some (.int .u64 ((a * b : Nat) : Int)) := by
 rw [show AHA t .mul (.int .u64 (a : Int)) (.int .u64 (b : Int)) = some (.int .u64 (IntKind.u64.wrap ((a : Int) * (b : Int)))) from rfl, show (a : Int) * (b : Int) = ((a * b : Nat) : Int) from rfl, ASH h1]
theorem BfV (h1 : a + b < 18446744073709551616) : AHA t .add (.int .u64 (a : Int)) (.int .u64 (b : Int)) = some (.int .u64 ((a + b : Nat) : Int)) := by
 rw [show AHA t .add (.int .u64 (a : Int)) (.int .u64 (b : Int)) = some (.int .u64 (IntKind.u64.wrap ((a : Int) + (b : Int)))) from rfl, show (a : Int) + (b : Int) = ((a + b : Nat) : Int) from by omega, ASH h1]
theorem A81 (h1 : b ≤ a) (h2 : a < 18446744073709551616) : AHA t .sub (.int .u64 (a : Int)) (.int .u64 (b : Int)) = some (.int .u64 ((a - b : Nat) : Int)) := by
 rw [show AHA t .sub (.int .u64 (a : Int)) (.int .u64 (b : Int)) = some (.int .u64 (IntKind.u64.wrap ((a : Int) - (b : Int)))) from rfl, show (a : Int) - (b : Int) = ((a - b : Nat) : Int) from by omega, ASH (by omega)]
theorem A8X (h2 : b ≤ 63) (h4 : a * 2 ^ b < 18446744073709551616) : AHA t .shl (.int .u64 (a : Int)) (.int k2 (b : Int)) = some (.int .u64 ((a * 2 ^ b : Nat) : Int)) := by
 have e : binOp .shl t (.int .u64 (a : Int)) (.int k2 (b : Int)) = pure (.int .u64 ((a * 2 ^ b : Nat) : Int)) := by
  show Op.shift .shl .u64 a k2 b = _
  unfold Op.shift
  rw [if_neg (by omega)]
  have hm : min ((b : Int)).toNat IntKind.u64.bits = b := by
   have : IntKind.u64.bits = 64 := rfl
   omega
  simp only [hm]
  have e2 : (a : Int) * 2 ^ b = ((a * 2 ^ b : Nat) : Int) := by rw [Int.natCast_mul, Int.natCast_pow]; rfl
  rw [e2, ASH h4]
 unfold AHA; rw [e]; rfl
end
end Go.Proofs.YtliaddbbmnfioaaGreatDoor


namespace Go.Proofs.YtliaddbbmnfioaaGreatDoor
open Go.RowKit
variable [AFG]
set_option linter.unusedSectionVars false
set_option linter.unusedSimpArgs false
set_option linter.unusedVariables false
set_option autoImplicit false

section
variable {t : TypeId} {a b : Nat} {k2 : IntKind}
theorem Bhp {n : Nat} (h : n < 256) : IntKind.u8.wrap (n : Int) = n := by rw [IntKind.wrap_u8]; omega
theorem bv8 {n : Nat} : (BitVec.ofInt 8 (n : Int)).toNat = n % 256 := by
 rw [BitVec.toNat_ofInt]; omega
theorem A1h : AHA t .add (.int .u8 (a : Int)) (.int .u8 (b : Int)) = some (.int .u8 (((a + b) % 256 : Nat) : Int)) := by
 rw [show AHA t .add (.int .u8 (a : Int)) (.int .u8 (b : Int)) = some (.int .u8 (IntKind.u8.wrap ((a : Int) + b))) from rfl, IntKind.wrap_u8]
 congr 2
theorem BgD : AHA t .mul (.int .u8 (a : Int)) (.int .u8 (b : Int)) = some (.int .u8 (((a * b) % 256 : Nat) : Int)) := by
 rw [show AHA t .mul (.int .u8 (a : Int)) (.int .u8 (b : Int)) = some (.int .u8 (IntKind.u8.wrap ((a : Int) * b))) from rfl, IntKind.wrap_u8]
 congr 2
theorem ATG (h : b ≤ a) (h2 : a < 256) : AHA t .sub (.int .u8 (a : Int)) (.int .u8 (b : Int)) = some (.int .u8 ((a - b : Nat) : Int)) := by
 rw [show AHA t .sub (.int .u8 (a : Int)) (.int .u8 (b : Int)) = some (.int .u8 (IntKind.u8.wrap ((a : Int) - b))) from rfl, IntKind.wrap_u8]
 congr 2; omega
theorem Bk6 (h1 : a < 256) (h2 : b < 256) : AHA t .and (.int .u8 (a : Int)) (.int .u8 (b : Int)) = some (.int .u8 ((a &&& b : Nat) : Int)) := by
 rw [show AHA t .and (.int .u8 (a : Int)) (.int .u8 (b : Int)) = some (.int .u8 (IntKind.u8.wrap ((BitVec.ofInt 8 a &&& BitVec.ofInt 8 b).toNat : Int))) from rfl, BitVec.toNat_and, bv8, bv8, Nat.mod_eq_of_lt (by omega), Nat.mod_eq_of_lt (by omega)]
 have := Nat.and_le_left (n := a) (m := b)
 rw [Bhp (by omega)]
theorem BoY (h1 : a < 256) (h2 : b < 256) : AHA t .or (.int .u8 (a : Int)) (.int .u8 (b : Int)) = some (.int .u8 ((a ||| b : Nat) : Int)) := by
 rw [show AHA t .or (.int .u8 (a : Int)) (.int .u8 (b : Int)) = some (.int .u8 (IntKind.u8.wrap ((BitVec.ofInt 8 a ||| BitVec.ofInt 8 b).toNat : Int))) from rfl, BitVec.toNat_or, bv8, bv8, Nat.mod_eq_of_lt (by omega), Nat.mod_eq_of_lt (by omega)]
 have := Nat.or_lt_two_pow (n := 8) (x := a) (y := b) (by omega) (by omega)
 rw [Bhp (by omega)]
theorem BkT (h1 : a < 256) (h2 : b ≤ 8) : AHA t .shr (.int .u8 (a : Int)) (.int k2 (b : Int)) = some (.int .u8 ((a / 2 ^ b : Nat) : Int)) := by
 have e : binOp .shr t (.int .u8 (a : Int)) (.int k2 (b : Int)) = pure (.int .u8 ((a / 2 ^ b : Nat) : Int)) := by
  show Op.shift .shr .u8 a k2 b = _
  unfold Op.shift
  rw [if_neg (by omega)]
  have hm : min ((b : Int)).toNat IntKind.u8.bits = b := by
   have : IntKind.u8.bits = 8 := rfl
   omega
  simp only [hm]
  rw [Int.fdiv_eq_ediv_of_nonneg _ (by exact Int.le_of_lt (Int.pow_pos (by omega)))]
  have hle : a / 2 ^ b ≤ a := Nat.div_le_self _ _
  have e2 : (a : Int) / 2 ^ b = ((a / 2 ^ b : Nat) : Int) := by rw [Int.natCast_ediv, Int.natCast_pow]; rfl
  rw [e2]
 unfold AHA; rw [e]; rfl
theorem Bl1 (h : b ≠ 0) (h1 : a < 256) : AHA t .quo (.int .u8 (a : Int)) (.int .u8 (b : Int)) = some (.int .u8 ((a / b : Nat) : Int)) := by
 have hz : ¬ (b : Int) = 0 := by omega
 have hle : a / b ≤ a := Nat.div_le_self _ _
 have e2 : (a : Int).tdiv (b : Int) = ((a / b : Nat) : Int) := by rw [Int.tdiv_eq_ediv_of_nonneg (by omega)]; rfl
 have e : binOp .quo t (.int .u8 (a : Int)) (.int .u8 (b : Int)) = pure (.int .u8 ((a / b : Nat) : Int)) := by
  unfold binOp
  simp only [ne_eq, not_true_eq_false, if_false, Op.intDiv, hz, e2, Bhp (show a / b < 256 by omega)]
 unfold AHA; rw [e]; rfl
end
theorem A8e {n : Nat} (h : n < 256) : TV.val (.int .u8 (n : Int)) = by8 (UInt8.ofNat n) := by
 show TV.val (.int .u8 (n : Int)) = TV.val (.int .u8 ((UInt8.ofNat n).toNat : Int))
 rw [UInt8.toNat_ofNat', Nat.mod_eq_of_lt (by omega)]
theorem AFi {l : List UInt8} : bl (str l) = l := by simp [bl, str]
theorem BhA {l m : List UInt8} : str l ++ str m = str (l ++ m) := by
 apply ByteArray.ext
 simp [str]
theorem AS4 {t : TypeId} {l m : List UInt8} (h : l.length + m.length ≤ 9223372036854775807) : AHA t .add (.string (str l)) (.string (str m)) = some (.string (str (l ++ m))) := by
 have e1 : (str l).size = l.length := by show l.toArray.size = _; simp
 have e2 : (str m).size = m.length := by show m.toArray.size = _; simp
 rw [← BhA, AHA, binOp_string_add, Op.stringOp]
 simp only [e1, e2]
 rw [if_neg (by show ¬ ((l.length + m.length : Nat) : Int) > 9223372036854775807; omega)]
 rfl
end Go.Proofs.YtliaddbbmnfioaaGreatDoor


namespace Go.Proofs.YtliaddbbmnfioaaGreatDoor
variable [AFG]
set_option linter.unusedSectionVars false
set_option linter.unusedVariables false
set_option linter.defProp false
set_option maxRecDepth 100000

def AFQ : ByteArray := str [48, 48, 48, 49, 48, 50, 48, 51, 48, 52, 48, 53, 48, 54, 48, 55, 48, 56, 48, 57, 49, 48, 49, 49, 49, 50, 49, 51, 49, 52, 49, 53, 49, 54, 49, 55, 49, 56, 49, 57, 50, 48, 50, 49, 50, 50, 50, 51, 50, 52, 50, 53, 50, 54, 50, 55, 50, 56, 50, 57, 51, 48, 51, 49, 51, 50, 51, 51, 51, 52, 51, 53, 51, 54, 51, 55, 51, 56, 51, 57, 52, 48, 52, 49, 52, 50, 52, 51, 52, 52, 52, 53, 52, 54, 52, 55, 52, 56, 52, 57, 53, 48, 53, 49, 53, 50, 53, 51, 53, 52, 53, 53, 53, 54, 53, 55, 53, 56, 53, 57, 54, 48, 54, 49, 54, 50, 54, 51, 54, 52, 54, 53, 54, 54, 54, 55, 54, 56, 54, 57, 55, 48, 55, 49, 55, 50, 55, 51, 55, 52, 55, 53, 55, 54, 55, 55, 55, 56, 55, 57, 56, 48, 56, 49, 56, 50, 56, 51, 56, 52, 56, 53, 56, 54, 56, 55, 56, 56, 56, 57, 57, 48, 57, 49, 57, 50, 57, 51, 57, 52, 57, 53, 57, 54, 57, 55, 57, 56, 57, 57]




def AIg : AFb := .seq (.seq (.ops [mv_ 11 0,
  po_ 12 (.bin 163 .lss (.t 11) (.c (.int .u64 ((100 : Nat) : Int))))] [0, 12])
 (.cond (.t 12)
 (.seq (.ops [mv_ 13 0,
   po_ 14 (.conv .i64 (.t 13)),
   so_ 15 (.call 126 [.t 14]),
   mv_ 4 15] [4])
  (.ret))
 (.skip)))
 (.seq (.ops [so_ 5 (.alloc (.arr 24 1 [.val (.int .u8 ((0 : Nat) : Int)), .val (.int .u8 ((0 : Nat) : Int)), .val (.int .u8 ((0 : Nat) : Int)), .val (.int .u8 ((0 : Nat) : Int)), .val (.int .u8 ((0 : Nat) : Int)), .val (.int .u8 ((0 : Nat) : Int)), .val (.int .u8 ((0 : Nat) : Int)), .val (.int .u8 ((0 : Nat) : Int)), .val (.int .u8 ((0 : Nat) : Int)), .val (.int .u8 ((0 : Nat) : Int)), .val (.int .u8 ((0 : Nat) : Int)), .val (.int .u8 ((0 : Nat) : Int)), .val (.int .u8 ((0 : Nat) : Int)), .val (.int .u8 ((0 : Nat) : Int)), .val (.int .u8 ((0 : Nat) : Int)), .val (.int .u8 ((0 : Nat) : Int)), .val (.int .u8 ((0 : Nat) : Int)), .val (.int .u8 ((0 : Nat) : Int)), .val (.int .u8 ((0 : Nat) : Int)), .val (.int .u8 ((0 : Nat) : Int)), .val (.int .u8 ((0 : Nat) : Int)), .val (.int .u8 ((0 : Nat) : Int)), .val (.int .u8 ((0 : Nat) : Int)), .val (.int .u8 ((0 : Nat) : Int))]))] [0, 5])
 (.seq (.ops [mv_ 16 0,
  so_ 17 (.call 127 [.t 16]),
  mv_ 6 17] [0, 5, 6])
 (.seq (.ops [mv_ 18 6,
  po_ 19 (.slA 24 1 (.t 5) none (some (.t 18))),
  mv_ 20 0,
  so_ 21 (.call 128 [.t 19, .t 20])] [5, 6])
 (.seq (.ops [mv_ 22 6,
  po_ 23 (.slA 24 1 (.t 5) none (some (.t 22))),
  po_ 24 (.b2s (.t 23)),
  mv_ 4 24] [4])
 (.ret)))))
def AIt : AFb := .cond (.t 10)
 AIg
 (.skip)
def AIa : AFb := .seq (.seq (.ops [mv_ 9 1,
  po_ 10 (.bin 3 .eql (.t 9) (ci_ 10))] [0, 1, 10])
 AIt)
 (.seq (.ops [mv_ 26 0,
  mv_ 27 1,
  so_ 28 (.call 129 [.c (.slice none 0 0), .t 26, .t 27, .c (.bool false), .c (.bool false)]),
  mv_ 25 28,
  po_ 29 (.ext 0 (.t 25)),
  po_ 30 (.ext 1 (.t 25)),
  mv_ 7 29,
  mv_ 8 30] [8])
 (.seq (.ops [mv_ 31 8,
  mv_ 4 31] [4])
 (.ret)))
def AIP : AFb := .seq (.ops [po_ 4 (.mov (.c (.string (str []))))] [0, 1])
 AIa
def AIN : List VR := [.tmp 4]
theorem ANs : Tryz.f180.body.bind (trC Tryz.prog Tryz.f180.ntmps) = some (er AIP) := by kernel_rfl
theorem ANt : trR Tryz.prog Tryz.f180.results.toList = some AIN := by kernel_rfl
def AJ6 := AE7 AIg.eq_1
def AJ8 := AE7 AIt.eq_1
def AJ4 := AE7 AIa.eq_1
def AMi := AE7 AIP.eq_1
theorem AMq {K : TV → Prop} {e : Env} {H : List Ob} : res AIN e H K = res [.tmp 4] e H K := AE9 rfl
def AGn := (And.intro (And.intro (And.intro @AJ6 @AJ8) (And.intro @AJ4 @AMi)) @AMq)
def AMZ := AGG 32 Tryz.func180 ANs ANt rfl

def ANT : AFb := .seq (.ops [po_ 4 (.mov (.c (.string (str []))))] [0, 1])
 (.seq (.ops [mv_ 5 0,
  mv_ 6 1,
  so_ 7 (.call 180 [.t 5, .t 6]),
  mv_ 4 7] [4])
 (.ret))
def ANA : List VR := [.tmp 4]
theorem AVO : Tryz.f168.body.bind (trC Tryz.prog Tryz.f168.ntmps) = some (er ANT) := by kernel_rfl
theorem AWh : trR Tryz.prog Tryz.f168.results.toList = some ANA := by kernel_rfl
def ATZ := AE7 ANT.eq_1
theorem AT3 {K : TV → Prop} {e : Env} {H : List Ob} : res ANA e H K = res [.tmp 4] e H K := AE9 rfl
def ANP := (And.intro @ATZ @AT3)
def AVn := AGG 8 Tryz.func168 AVO AWh rfl

def AHK : AFb := .seq (.draw 11 [mv_ 81 0,
  mv_ 82 4,
  po_ 83 (.bin 3 .sub (.t 82) (ci_ 7)),
  mv_ 84 0,
  mv_ 85 4,
  po_ 86 (.bin 3 .sub (.t 85) (ci_ 8)),
  mv_ 87 10,
  po_ 88 (.bin 203 .add (.t 87) (.c (.int .u32 ((1 : Nat) : Int)))),
  po_ 89 (.idxS (.c (.string AFQ)) (.t 88)),
  mv_ 90 10,
  po_ 91 (.idxS (.c (.string AFQ)) (.t 90)),
  po_ 92 (.idxA 1 (.t 81) (.t 83)),
  ⟨none, .s (.store 1 (.t 92) (.t 89)), none⟩,
  po_ 93 (.idxA 1 (.t 84) (.t 86)),
  ⟨none, .s (.store 1 (.t 93) (.t 91)), none⟩] [0, 1, 4])
 (.ops [mv_ 94 4,
  po_ 95 (.bin 3 .sub (.t 94) (ci_ 8)),
  mv_ 4 95] [0, 1, 4])
def AHt : AFb := .seq (.draw 11 [mv_ 68 0,
  mv_ 69 4,
  po_ 70 (.bin 3 .sub (.t 69) (ci_ 5)),
  mv_ 71 0,
  mv_ 72 4,
  po_ 73 (.bin 3 .sub (.t 72) (ci_ 6)),
  mv_ 74 11,
  po_ 75 (.bin 203 .add (.t 74) (.c (.int .u32 ((1 : Nat) : Int)))),
  po_ 76 (.idxS (.c (.string AFQ)) (.t 75)),
  mv_ 77 11,
  po_ 78 (.idxS (.c (.string AFQ)) (.t 77)),
  po_ 79 (.idxA 1 (.t 68) (.t 70)),
  ⟨none, .s (.store 1 (.t 79) (.t 76)), none⟩,
  po_ 80 (.idxA 1 (.t 71) (.t 73)),
  ⟨none, .s (.store 1 (.t 80) (.t 78)), none⟩] [0, 1, 4, 10])
 AHK
def AHI : AFb := .seq (.draw 11 [mv_ 55 0,
  mv_ 56 4,
  po_ 57 (.bin 3 .sub (.t 56) (ci_ 3)),
  mv_ 58 0,
  mv_ 59 4,
  po_ 60 (.bin 3 .sub (.t 59) (ci_ 4)),
  mv_ 61 8,
  po_ 62 (.bin 203 .add (.t 61) (.c (.int .u32 ((1 : Nat) : Int)))),
  po_ 63 (.idxS (.c (.string AFQ)) (.t 62)),
  mv_ 64 8,
  po_ 65 (.idxS (.c (.string AFQ)) (.t 64)),
  po_ 66 (.idxA 1 (.t 55) (.t 57)),
  ⟨none, .s (.store 1 (.t 66) (.t 63)), none⟩,
  po_ 67 (.idxA 1 (.t 58) (.t 60)),
  ⟨none, .s (.store 1 (.t 67) (.t 65)), none⟩] [0, 1, 4, 10, 11])
 AHt
def AHE : AFb := .seq (.draw 11 [mv_ 42 0,
  mv_ 43 4,
  po_ 44 (.bin 3 .sub (.t 43) (ci_ 1)),
  mv_ 45 0,
  mv_ 46 4,
  po_ 47 (.bin 3 .sub (.t 46) (ci_ 2)),
  mv_ 48 9,
  po_ 49 (.bin 203 .add (.t 48) (.c (.int .u32 ((1 : Nat) : Int)))),
  po_ 50 (.idxS (.c (.string AFQ)) (.t 49)),
  mv_ 51 9,
  po_ 52 (.idxS (.c (.string AFQ)) (.t 51)),
  po_ 53 (.idxA 1 (.t 42) (.t 44)),
  ⟨none, .s (.store 1 (.t 53) (.t 50)), none⟩,
  po_ 54 (.idxA 1 (.t 45) (.t 47)),
  ⟨none, .s (.store 1 (.t 54) (.t 52)), none⟩] [0, 1, 4, 8, 10, 11])
 AHI
def AHB : AFb := .seq (.ops [mv_ 36 6,
  po_ 37 (.bin 203 .quo (.t 36) (.c (.int .u32 ((100 : Nat) : Int)))),
  po_ 38 (.bin 203 .mul (.t 37) (.c (.int .u32 ((2 : Nat) : Int)))),
  mv_ 39 6,
  po_ 40 (.bin 203 .rem (.t 39) (.c (.int .u32 ((100 : Nat) : Int)))),
  po_ 41 (.bin 203 .mul (.t 40) (.c (.int .u32 ((2 : Nat) : Int)))),
  mv_ 10 38,
  mv_ 11 41] [0, 1, 4, 8, 9, 10, 11])
 AHE
def AHn : AFb := .seq (.ops [mv_ 30 7,
  po_ 31 (.bin 203 .quo (.t 30) (.c (.int .u32 ((100 : Nat) : Int)))),
  po_ 32 (.bin 203 .mul (.t 31) (.c (.int .u32 ((2 : Nat) : Int)))),
  mv_ 33 7,
  po_ 34 (.bin 203 .rem (.t 33) (.c (.int .u32 ((100 : Nat) : Int)))),
  po_ 35 (.bin 203 .mul (.t 34) (.c (.int .u32 ((2 : Nat) : Int)))),
  mv_ 8 32,
  mv_ 9 35] [0, 1, 4, 6, 8, 9])
 AHB
def AGs : AFb := .seq (.ops [mv_ 26 5,
  po_ 27 (.bin 203 .quo (.t 26) (.c (.int .u32 ((10000 : Nat) : Int)))),
  mv_ 28 5,
  po_ 29 (.bin 203 .rem (.t 28) (.c (.int .u32 ((10000 : Nat) : Int)))),
  mv_ 6 27,
  mv_ 7 29] [0, 1, 4, 6, 7])
 AHn
def AHz : AFb := .seq (.ops [mv_ 24 1,
  po_ 25 (.bin 163 .quo (.t 24) (.c (.int .u64 ((100000000 : Nat) : Int)))),
  mv_ 1 25] [0, 1, 4, 5])
 AGs
def AHm : AFb := .block 1 (.seq (.ops [mv_ 21 1,
  po_ 22 (.bin 163 .rem (.t 21) (.c (.int .u64 ((100000000 : Nat) : Int)))),
  po_ 23 (.conv .u32 (.t 22)),
  mv_ 5 23] [0, 1, 4, 5])
 AHz)
def AHb : AFb := .seq (.seq (.ops [mv_ 19 4,
  po_ 20 (.bin 3 .geq (.t 19) (ci_ 8))] [0, 1, 4, 20])
 (.cond (.t 20)
 (.skip)
 (.exit 0)))
 AHm
def AG2 : AFb := .seq (.draw 11 [mv_ 123 0,
  mv_ 124 4,
  po_ 125 (.bin 3 .sub (.t 124) (ci_ 3)),
  mv_ 126 0,
  mv_ 127 4,
  po_ 128 (.bin 3 .sub (.t 127) (ci_ 4)),
  mv_ 129 14,
  po_ 130 (.bin 203 .add (.t 129) (.c (.int .u32 ((1 : Nat) : Int)))),
  po_ 131 (.idxS (.c (.string AFQ)) (.t 130)),
  mv_ 132 14,
  po_ 133 (.idxS (.c (.string AFQ)) (.t 132)),
  po_ 134 (.idxA 1 (.t 123) (.t 125)),
  ⟨none, .s (.store 1 (.t 134) (.t 131)), none⟩,
  po_ 135 (.idxA 1 (.t 126) (.t 128)),
  ⟨none, .s (.store 1 (.t 135) (.t 133)), none⟩] [0, 4, 12])
 (.ops [mv_ 136 4,
  po_ 137 (.bin 3 .sub (.t 136) (ci_ 4)),
  mv_ 4 137] [0, 4, 12])
def AG3 : AFb := .seq (.draw 11 [mv_ 110 0,
  mv_ 111 4,
  po_ 112 (.bin 3 .sub (.t 111) (ci_ 1)),
  mv_ 113 0,
  mv_ 114 4,
  po_ 115 (.bin 3 .sub (.t 114) (ci_ 2)),
  mv_ 116 15,
  po_ 117 (.bin 203 .add (.t 116) (.c (.int .u32 ((1 : Nat) : Int)))),
  po_ 118 (.idxS (.c (.string AFQ)) (.t 117)),
  mv_ 119 15,
  po_ 120 (.idxS (.c (.string AFQ)) (.t 119)),
  po_ 121 (.idxA 1 (.t 110) (.t 112)),
  ⟨none, .s (.store 1 (.t 121) (.t 118)), none⟩,
  po_ 122 (.idxA 1 (.t 113) (.t 115)),
  ⟨none, .s (.store 1 (.t 122) (.t 120)), none⟩] [0, 4, 12, 14])
 AG2
def AG6 : AFb := .seq (.ops [mv_ 104 13,
  po_ 105 (.bin 203 .quo (.t 104) (.c (.int .u32 ((100 : Nat) : Int)))),
  po_ 106 (.bin 203 .mul (.t 105) (.c (.int .u32 ((2 : Nat) : Int)))),
  mv_ 107 13,
  po_ 108 (.bin 203 .rem (.t 107) (.c (.int .u32 ((100 : Nat) : Int)))),
  po_ 109 (.bin 203 .mul (.t 108) (.c (.int .u32 ((2 : Nat) : Int)))),
  mv_ 14 106,
  mv_ 15 109] [0, 4, 12, 14, 15])
 AG3
def AHa : AFb := .seq (.ops [mv_ 102 12,
  po_ 103 (.bin 203 .quo (.t 102) (.c (.int .u32 ((10000 : Nat) : Int)))),
  mv_ 12 103] [0, 4, 12, 13])
 AG6
def AHf : AFb := .seq (.ops [mv_ 100 12,
  po_ 101 (.bin 203 .rem (.t 100) (.c (.int .u32 ((10000 : Nat) : Int)))),
  mv_ 13 101] [0, 4, 12, 13])
 AHa
def AG5 : AFb := .cond (.t 99)
 AHf
 (.skip)
def AHd : AFb := .seq (.draw 11 [mv_ 145 0,
  mv_ 146 4,
  po_ 147 (.bin 3 .sub (.t 146) (ci_ 1)),
  mv_ 148 0,
  mv_ 149 4,
  po_ 150 (.bin 3 .sub (.t 149) (ci_ 2)),
  mv_ 151 16,
  po_ 152 (.bin 203 .add (.t 151) (.c (.int .u32 ((1 : Nat) : Int)))),
  po_ 153 (.idxS (.c (.string AFQ)) (.t 152)),
  mv_ 154 16,
  po_ 155 (.idxS (.c (.string AFQ)) (.t 154)),
  po_ 156 (.idxA 1 (.t 145) (.t 147)),
  ⟨none, .s (.store 1 (.t 156) (.t 153)), none⟩,
  po_ 157 (.idxA 1 (.t 148) (.t 150)),
  ⟨none, .s (.store 1 (.t 157) (.t 155)), none⟩] [0, 4, 12])
 (.ops [mv_ 158 4,
  po_ 159 (.bin 3 .sub (.t 158) (ci_ 2)),
  mv_ 4 159] [0, 4, 12])
def AG7 : AFb := .seq (.ops [mv_ 143 12,
  po_ 144 (.bin 203 .quo (.t 143) (.c (.int .u32 ((100 : Nat) : Int)))),
  mv_ 12 144] [0, 4, 12, 16])
 AHd
def AG1 : AFb := .seq (.ops [mv_ 140 12,
  po_ 141 (.bin 203 .rem (.t 140) (.c (.int .u32 ((100 : Nat) : Int)))),
  po_ 142 (.bin 203 .mul (.t 141) (.c (.int .u32 ((2 : Nat) : Int)))),
  mv_ 16 142] [0, 4, 12, 16])
 AG7
def AHe : AFb := .cond (.t 139)
 AG1
 (.skip)
def AGp : AFb := .seq (.seq (.ops [mv_ 138 4,
  po_ 139 (.bin 3 .geq (.t 138) (ci_ 2))] [0, 4, 12, 139])
 AHe)
 (.seq (.ops [mv_ 160 4,
  po_ 161 (.bin 3 .gtr (.t 160) (ci_ 0))] [0, 12, 161])
 (.cond (.t 161)
 (.ops [mv_ 162 0,
   mv_ 163 12,
   po_ 164 (.bin 203 .add (.c (.int .u32 ((48 : Nat) : Int))) (.t 163)),
   po_ 165 (.conv .u8 (.t 164)),
   po_ 166 (.idxA 1 (.t 162) (ci_ 0)),
   ⟨none, .s (.store 1 (.t 166) (.t 165)), none⟩] [])
 (.skip)))
def AGq : AFb := .seq (.seq (.ops [mv_ 98 4,
  po_ 99 (.bin 3 .geq (.t 98) (ci_ 4))] [0, 4, 12, 99])
 AG5)
 AGp
def AG8 : AFb := .seq (.ops [mv_ 96 1,
  po_ 97 (.conv .u32 (.t 96)),
  mv_ 12 97] [0, 4, 12])
 AGq
def AG9 : AFb := .seq (.block 0 (.loop [0, 1, 4] AHb))
 AG8
def AIB : AFb := .seq (.ops [mv_ 17 0,
  po_ 18 (.lenV (.t 17)),
  mv_ 4 18] [0, 1, 4])
 AG9
def AGe : List VR := []
theorem AMc : Tryz.f128.body.bind (trC Tryz.prog Tryz.f128.ntmps) = some (er AIB) := by kernel_rfl
theorem ALZ : trR Tryz.prog Tryz.f128.results.toList = some AGe := by kernel_rfl
def AJF := AE7 AHK.eq_1
def AJG := AE7 AHt.eq_1
def AJw := AE7 AHI.eq_1
def AJE := AE7 AHE.eq_1
def AJN := AE7 AHB.eq_1
def AJL := AE7 AHn.eq_1
def AJI := AE7 AGs.eq_1
def AJx := AE7 AHz.eq_1
def AJA := AE7 AHm.eq_1
def AGO := AE7 AHb.eq_1
def AJs := AE7 AG2.eq_1
def AJq := AE7 AG3.eq_1
def AJp := AE7 AG6.eq_1
def AJr := AE7 AHa.eq_1
def AJt := AE7 AHf.eq_1
def AGQ := AE7 AG5.eq_1
def AGM := AE7 AHd.eq_1
def AGL := AE7 AG7.eq_1
def AGP := AE7 AG1.eq_1
def AFS := AE7 AHe.eq_1
def AFT := AE7 AGp.eq_1
def AGN := AE7 AGq.eq_1
def AJu := AE7 AG8.eq_1
def AJv := AE7 AG9.eq_1
def AKc := AE7 AIB.eq_1
theorem AGb {K : TV → Prop} {e : Env} {H : List Ob} : res AGe e H K = res [] e H K := AE9 rfl
def ALf := AGG 167 Tryz.func128 AMc ALZ rfl

def AL0 : AFb := .seq (.ops [mv_ 65 0,
  po_ 66 (.lenS (.t 65)),
  po_ 67 (.bin 3 .geq (.t 66) (ci_ 3)),
  mv_ 68 67,
  ⟨some 69, .p (.mov (.t 0)), some ⟨68, true⟩⟩,
  ⟨some 70, .p (.idxS (.t 69) (ci_ 1)), some ⟨68, true⟩⟩,
  ⟨some 71, .s (.call 151 [.t 70]), some ⟨68, true⟩⟩,
  ⟨some 72, .p (.bin 5 .eql (.t 71) (.c (.int .u8 ((120 : Nat) : Int)))), some ⟨68, true⟩⟩,
  po_ 73 (.pick (.t 68) (.t 72) (.c (.bool false))),
  mv_ 64 73] [0, 2, 8, 9, 64])
 (.cond (.t 64)
 (.seq (.ops [po_ 1 (.mov (ci_ 16))] [0, 1, 2, 8, 9])
  (.ops [mv_ 74 0,
   po_ 75 (.slS (.t 74) (some (ci_ 2)) none),
   mv_ 0 75] [0, 1, 2, 8, 9]))
 (.seq (.ops [po_ 1 (.mov (ci_ 8))] [0, 1, 2, 8, 9])
  (.ops [mv_ 38 0,
   po_ 39 (.slS (.t 38) (some (ci_ 1)) none),
   mv_ 0 39] [0, 1, 2, 8, 9])))
def AMb : AFb := .cond (.t 52)
 (.seq (.ops [po_ 1 (.mov (ci_ 8))] [0, 1, 2, 8, 9])
  (.ops [mv_ 62 0,
   po_ 63 (.slS (.t 62) (some (ci_ 2)) none),
   mv_ 0 63] [0, 1, 2, 8, 9]))
 AL0
def AMo : AFb := .seq (.ops [mv_ 53 0,
  po_ 54 (.lenS (.t 53)),
  po_ 55 (.bin 3 .geq (.t 54) (ci_ 3)),
  mv_ 56 55,
  ⟨some 57, .p (.mov (.t 0)), some ⟨56, true⟩⟩,
  ⟨some 58, .p (.idxS (.t 57) (ci_ 1)), some ⟨56, true⟩⟩,
  ⟨some 59, .s (.call 151 [.t 58]), some ⟨56, true⟩⟩,
  ⟨some 60, .p (.bin 5 .eql (.t 59) (.c (.int .u8 ((111 : Nat) : Int)))), some ⟨56, true⟩⟩,
  po_ 61 (.pick (.t 56) (.t 60) (.c (.bool false))),
  mv_ 52 61] [0, 2, 8, 9, 52])
 AMb
def AL8 : AFb := .cond (.t 40)
 (.seq (.ops [po_ 1 (.mov (ci_ 2))] [0, 1, 2, 8, 9])
  (.ops [mv_ 50 0,
   po_ 51 (.slS (.t 50) (some (ci_ 2)) none),
   mv_ 0 51] [0, 1, 2, 8, 9]))
 AMo
def AMm : AFb := .block 1 (.seq (.ops [mv_ 41 0,
  po_ 42 (.lenS (.t 41)),
  po_ 43 (.bin 3 .geq (.t 42) (ci_ 3)),
  mv_ 44 43,
  ⟨some 45, .p (.mov (.t 0)), some ⟨44, true⟩⟩,
  ⟨some 46, .p (.idxS (.t 45) (ci_ 1)), some ⟨44, true⟩⟩,
  ⟨some 47, .s (.call 151 [.t 46]), some ⟨44, true⟩⟩,
  ⟨some 48, .p (.bin 5 .eql (.t 47) (.c (.int .u8 ((98 : Nat) : Int)))), some ⟨44, true⟩⟩,
  po_ 49 (.pick (.t 44) (.t 48) (.c (.bool false))),
  mv_ 40 49] [0, 2, 8, 9, 40])
 AL8)
def AMa : AFb := .cond (.t 37)
 AMm
 (.skip)
def AL9 : AFb := .seq (.ops [mv_ 35 0,
  po_ 36 (.idxS (.t 35) (ci_ 0)),
  po_ 37 (.bin 5 .eql (.t 36) (.c (.int .u8 ((48 : Nat) : Int))))] [0, 1, 2, 8, 9, 37])
 AMa
def AL6 : AFb := .seq (.ops [po_ 1 (.mov (ci_ 10))] [0, 1, 2, 8, 9])
 AL9
def ALY : AFb := .cond (.t 32)
 AL6
 (.seq (.ops [po_ 24 (.iface 228 (ci_ 3)),
   po_ 6 (.mov (.c (.int .u64 ((0 : Nat) : Int)))),
   mv_ 7 24] [6, 7])
  (.ret))
def ALe : AFb := .seq (.ops [mv_ 33 1,
  po_ 34 (.bin 3 .eql (.t 33) (ci_ 0)),
  mv_ 32 34] [0, 2, 8, 9, 32])
 ALY
def AIi : AFb := .cond (.t 25)
 (.skip)
 ALe
def AIq : AFb := .seq (.ops [mv_ 78 2,
  po_ 79 (.bin 3 .lss (.t 78) (ci_ 0)),
  mv_ 80 79,
  ⟨some 81, .p (.mov (.t 2)), some ⟨80, false⟩⟩,
  ⟨some 82, .p (.bin 3 .gtr (.t 81) (ci_ 64)), some ⟨80, false⟩⟩,
  po_ 83 (.pick (.t 80) (.c (.bool true)) (.t 82))] [0, 1, 2, 8, 9, 83])
 (.cond (.t 83)
 (.seq (.ops [po_ 84 (.iface 228 (ci_ 4)),
   po_ 6 (.mov (.c (.int .u64 ((0 : Nat) : Int)))),
   mv_ 7 84] [6, 7])
  (.ret))
 (.skip))
def ALg : AFb := .seq (.ops [po_ 93 (.bin 3 .eql (.t 85) (ci_ 16)),
  mv_ 92 93] [0, 1, 2, 8, 9, 92])
 (.cond (.t 92)
 (.ops [po_ 10 (.mov (.c (.int .u64 ((1152921504606846976 : Nat) : Int))))] [0, 1, 2, 8, 9, 10])
 (.ops [mv_ 86 1,
   po_ 87 (.conv .u64 (.t 86)),
   po_ 88 (.bin 163 .quo (.c (.int .u64 ((18446744073709551615 : Nat) : Int))) (.t 87)),
   po_ 89 (.bin 163 .add (.t 88) (.c (.int .u64 ((1 : Nat) : Int)))),
   mv_ 10 89] [0, 1, 2, 8, 9, 10]))
def AIk : AFb := .seq (.ops [mv_ 122 15,
  so_ 123 (.call 151 [.t 122]),
  po_ 124 (.bin 5 .leq (.c (.int .u8 ((97 : Nat) : Int))) (.t 123)),
  mv_ 125 124,
  ⟨some 126, .p (.mov (.t 15)), some ⟨125, true⟩⟩,
  ⟨some 127, .s (.call 151 [.t 126]), some ⟨125, true⟩⟩,
  ⟨some 128, .p (.bin 5 .leq (.t 127) (.c (.int .u8 ((122 : Nat) : Int)))), some ⟨125, true⟩⟩,
  po_ 129 (.pick (.t 125) (.t 128) (.c (.bool false))),
  mv_ 121 129] [1, 8, 9, 10, 11, 12, 13, 15, 99, 100, 101, 121])
 (.cond (.t 121)
 (.ops [mv_ 130 15,
   so_ 131 (.call 151 [.t 130]),
   po_ 132 (.bin 5 .sub (.t 131) (.c (.int .u8 ((97 : Nat) : Int)))),
   po_ 133 (.bin 5 .add (.t 132) (.c (.int .u8 ((10 : Nat) : Int)))),
   mv_ 16 133] [1, 8, 9, 10, 11, 12, 13, 16, 99, 100, 101])
 (.seq (.ops [po_ 105 (.iface 228 (ci_ 2)),
   po_ 6 (.mov (.c (.int .u64 ((0 : Nat) : Int)))),
   mv_ 7 105] [6, 7])
  (.ret)))
def AIl : AFb := .cond (.t 112)
 (.ops [mv_ 119 15,
   po_ 120 (.bin 5 .sub (.t 119) (.c (.int .u8 ((48 : Nat) : Int)))),
   mv_ 16 120] [1, 8, 9, 10, 11, 12, 13, 16, 99, 100, 101])
 AIk
def AH4 : AFb := .seq (.ops [mv_ 113 15,
  po_ 114 (.bin 5 .leq (.c (.int .u8 ((48 : Nat) : Int))) (.t 113)),
  mv_ 115 114,
  ⟨some 116, .p (.mov (.t 15)), some ⟨115, true⟩⟩,
  ⟨some 117, .p (.bin 5 .leq (.t 116) (.c (.int .u8 ((57 : Nat) : Int)))), some ⟨115, true⟩⟩,
  po_ 118 (.pick (.t 115) (.t 117) (.c (.bool false))),
  mv_ 112 118] [1, 8, 9, 10, 11, 12, 13, 15, 99, 100, 101, 112])
 AIl
def AH2 : AFb := .cond (.t 106)
 (.seq (.ops [po_ 12 (.mov (.c (.bool true)))] [1, 8, 9, 10, 11, 12, 13, 99, 100, 101])
  (.exit 4))
 AH4
def AIf : AFb := .seq (.seq (.ops [mv_ 152 17,
  mv_ 153 13,
  po_ 154 (.bin 163 .lss (.t 152) (.t 153)),
  mv_ 155 154,
  ⟨some 156, .p (.mov (.t 17)), some ⟨155, false⟩⟩,
  ⟨some 157, .p (.mov (.t 11)), some ⟨155, false⟩⟩,
  ⟨some 158, .p (.bin 163 .gtr (.t 156) (.t 157)), some ⟨155, false⟩⟩,
  po_ 159 (.pick (.t 155) (.c (.bool true)) (.t 158))] [1, 8, 9, 10, 11, 12, 17, 99, 100, 101, 159])
 (.cond (.t 159)
 (.seq (.ops [mv_ 160 11,
   po_ 161 (.iface 228 (ci_ 1)),
   mv_ 6 160,
   mv_ 7 161] [6, 7])
  (.ret))
 (.skip)))
 (.ops [mv_ 162 17,
  mv_ 13 162] [1, 8, 9, 10, 11, 12, 13, 99, 100, 101])
def AIo : AFb := .seq (.ops [mv_ 148 13,
  mv_ 149 16,
  po_ 150 (.conv .u64 (.t 149)),
  po_ 151 (.bin 163 .add (.t 148) (.t 150)),
  mv_ 17 151] [1, 8, 9, 10, 11, 12, 13, 17, 99, 100, 101])
 AIf
def AIs : AFb := .seq (.ops [mv_ 144 13,
  mv_ 145 1,
  po_ 146 (.conv .u64 (.t 145)),
  po_ 147 (.bin 163 .mul (.t 144) (.t 146)),
  mv_ 13 147] [1, 8, 9, 10, 11, 12, 13, 16, 99, 100, 101])
 AIo
def AIp : AFb := .seq (.seq (.ops [mv_ 139 13,
  mv_ 140 10,
  po_ 141 (.bin 163 .geq (.t 139) (.t 140))] [1, 8, 9, 10, 11, 12, 13, 16, 99, 100, 101, 141])
 (.cond (.t 141)
 (.seq (.ops [mv_ 142 11,
   po_ 143 (.iface 228 (ci_ 1)),
   mv_ 6 142,
   mv_ 7 143] [6, 7])
  (.ret))
 (.skip)))
 AIs
def AH5 : AFb := .seq (.seq (.ops [mv_ 134 16,
  mv_ 135 1,
  po_ 136 (.conv .u8 (.t 135)),
  po_ 137 (.bin 5 .geq (.t 134) (.t 136))] [1, 8, 9, 10, 11, 12, 13, 16, 99, 100, 101, 137])
 (.cond (.t 137)
 (.seq (.ops [po_ 138 (.iface 228 (ci_ 2)),
   po_ 6 (.mov (.c (.int .u64 ((0 : Nat) : Int)))),
   mv_ 7 138] [6, 7])
  (.ret))
 (.skip)))
 AIp
def AIe : AFb := .seq (.block 5 (.seq (.ops [mv_ 107 15,
  po_ 108 (.bin 5 .eql (.t 107) (.c (.int .u8 ((95 : Nat) : Int)))),
  mv_ 109 108,
  ⟨some 110, .p (.mov (.t 8)), some ⟨109, true⟩⟩,
  po_ 111 (.pick (.t 109) (.t 110) (.c (.bool false))),
  mv_ 106 111] [1, 8, 9, 10, 11, 12, 13, 15, 99, 100, 101, 106])
 AH2))
 AH5
def AH6 : AFb := .seq (.ops [po_ 16 (.mov (.c (.int .u8 ((0 : Nat) : Int))))] [1, 8, 9, 10, 11, 12, 13, 15, 99, 100, 101])
 AIe
def AH8 : AFb := .seq (.block 4 (.seq (.ops [po_ 103 (.idxA 1 (.t 99) (.t 101)),
  po_ 104 (.load false 1 (.t 103)),
  mv_ 15 104] [1, 8, 9, 10, 11, 12, 13, 15, 99, 100, 101])
 AH6))
 (.ops [po_ 163 (.bin 3 .add (.t 101) (ci_ 1)),
  mv_ 101 163] [1, 8, 9, 10, 11, 12, 13, 99, 100, 101])
def AIn : AFb := .seq (.cond (.t 102)
 (.skip)
 (.exit 3))
 AH8
def AH0 : AFb := .seq (.ops [po_ 102 (.bin 3 .lss (.t 101) (.t 100))] [1, 8, 9, 10, 11, 12, 13, 99, 100, 101, 102])
 AIn
def AHY : AFb := .block 3 (.loop [1, 8, 9, 10, 11, 12, 13, 99, 100, 101] AH0)
def AIh : AFb := .seq (.seq (.ops [mv_ 164 12,
  mv_ 165 164,
  ⟨some 166, .p (.mov (.t 9)), some ⟨165, true⟩⟩,
  ⟨some 167, .s (.call 152 [.t 166]), some ⟨165, true⟩⟩,
  ⟨some 168, .p (.un .not (.t 167)), some ⟨165, true⟩⟩,
  po_ 169 (.pick (.t 165) (.t 168) (.c (.bool false)))] [13, 169])
 (.cond (.t 169)
 (.seq (.ops [po_ 170 (.iface 228 (ci_ 2)),
   po_ 6 (.mov (.c (.int .u64 ((0 : Nat) : Int)))),
   mv_ 7 170] [6, 7])
  (.ret))
 (.skip)))
 (.seq (.ops [mv_ 171 13,
  mv_ 6 171,
  po_ 7 (.mov (.c .nilIface))] [6, 7])
 (.ret))
def AHX : AFb := .seq (.seq (.ops [mv_ 98 0,
  so_ 99 (.s2b (.t 98)),
  po_ 100 (.lenV (.t 99)),
  po_ 101 (.mov (ci_ 0))] [1, 8, 9, 10, 11, 12, 13, 99, 100, 101])
 AHY)
 AIh
def AH7 : AFb := .seq (.ops [po_ 13 (.mov (.c (.int .u64 ((0 : Nat) : Int))))] [0, 1, 8, 9, 10, 11, 12, 13])
 AHX
def AIb : AFb := .seq (.ops [po_ 12 (.mov (.c (.bool false)))] [0, 1, 8, 9, 10, 11, 12])
 AH7
def AH3 : AFb := .seq (.ops [mv_ 94 2,
  po_ 95 (.conv .u64 (.t 94)),
  po_ 96 (.bin 163 .shl (.c (.int .u64 ((1 : Nat) : Int))) (.t 95)),
  po_ 97 (.bin 163 .sub (.t 96) (.c (.int .u64 ((1 : Nat) : Int)))),
  mv_ 11 97] [0, 1, 8, 9, 10, 11])
 AIb
def AIj : AFb := .seq (.seq (.ops [mv_ 85 1] [0, 1, 2, 8, 9, 85])
 (.block 2 (.seq (.ops [po_ 91 (.bin 3 .eql (.t 85) (ci_ 10)),
  mv_ 90 91] [0, 1, 2, 8, 9, 85, 90])
 (.cond (.t 90)
 (.ops [po_ 10 (.mov (.c (.int .u64 ((1844674407370955162 : Nat) : Int))))] [0, 1, 2, 8, 9, 10])
 ALg))))
 AH3
def AId : AFb := .seq (.ops [po_ 10 (.mov (.c (.int .u64 ((0 : Nat) : Int))))] [0, 1, 2, 8, 9])
 AIj
def AIc : AFb := .seq (.seq (.ops [mv_ 76 2,
  po_ 77 (.bin 3 .eql (.t 76) (ci_ 0))] [0, 1, 2, 8, 9, 77])
 (.cond (.t 77)
 (.ops [po_ 2 (.mov (ci_ 64))] [0, 1, 2, 8, 9])
 AIq))
 AId
def AIu : AFb := .seq (.block 0 (.seq (.ops [mv_ 26 1,
  po_ 27 (.bin 3 .leq (ci_ 2) (.t 26)),
  mv_ 28 27,
  ⟨some 29, .p (.mov (.t 1)), some ⟨28, true⟩⟩,
  ⟨some 30, .p (.bin 3 .leq (.t 29) (ci_ 36)), some ⟨28, true⟩⟩,
  po_ 31 (.pick (.t 28) (.t 30) (.c (.bool false))),
  mv_ 25 31] [0, 1, 2, 8, 9, 25])
 AIi))
 AIc
def AIv : AFb := .seq (.ops [mv_ 23 0,
  mv_ 9 23] [0, 1, 2, 8, 9])
 AIu
def AIr : AFb := .seq (.ops [mv_ 21 1,
  po_ 22 (.bin 3 .eql (.t 21) (ci_ 0)),
  mv_ 8 22] [0, 1, 2, 8])
 AIv
def AIm : AFb := .seq (.seq (.ops [mv_ 18 0,
  po_ 19 (.bin 9 .eql (.t 18) (.c (.string (str []))))] [0, 1, 2, 19])
 (.cond (.t 19)
 (.seq (.ops [po_ 20 (.iface 228 (ci_ 2)),
   po_ 6 (.mov (.c (.int .u64 ((0 : Nat) : Int)))),
   mv_ 7 20] [6, 7])
  (.ret))
 (.skip)))
 AIr
def AIZ : AFb := .seq (.ops [po_ 6 (.mov (.c (.int .u64 ((0 : Nat) : Int)))),
  po_ 7 (.mov (.c .nilIface))] [0, 1, 2])
 AIm
def AI3 : List VR := [.tmp 6, .tmp 7]
theorem AOg : Tryz.f123.body.bind (trC Tryz.prog Tryz.f123.ntmps) = some (er AIZ) := by kernel_rfl
theorem AOb : trR Tryz.prog Tryz.f123.results.toList = some AI3 := by kernel_rfl
def AHw := AE7 AIi.eq_1
def AHD := AE7 AIq.eq_1
def AFD := AE7 AIk.eq_1
def AFm := AE7 AIl.eq_1
def AFA := AE7 AH4.eq_1
def AFx := AE7 AH2.eq_1
def AHx := AE7 AIf.eq_1
def AHH := AE7 AIo.eq_1
def AHF := AE7 AIs.eq_1
def AGt := AE7 AIp.eq_1
def AFy := AE7 AH5.eq_1
def AFz := AE7 AIe.eq_1
def AFw := AE7 AH6.eq_1
def AFB := AE7 AH8.eq_1
def AFl := AE7 AIn.eq_1
def AFn := AE7 AH0.eq_1
def AHJ := AE7 AHY.eq_1
def AHp := AE7 AIh.eq_1
def AHr := AE7 AHX.eq_1
def AHs := AE7 AH7.eq_1
def AHu := AE7 AIb.eq_1
def AHL := AE7 AH3.eq_1
def AHv := AE7 AIj.eq_1
def AHo := AE7 AId.eq_1
def AHC := AE7 AIc.eq_1
def AHy := AE7 AIu.eq_1
def AHG := AE7 AIv.eq_1
def AHq := AE7 AIr.eq_1
def AF6 := AE7 AIm.eq_1
def AGj := AE7 AIZ.eq_1
theorem AFf {K : TV → Prop} {e : Env} {H : List Ob} : res AI3 e H K = res [.tmp 6, .tmp 7] e H K := AE9 rfl
def AIM := AGG 172 Tryz.func123 AOg AOb rfl

def AJ1 : AFb := .seq (.ops [po_ 2 (.mov (.c (.int .u8 ((0 : Nat) : Int))))] [0])
 (.seq (.ops [mv_ 3 0,
  po_ 4 (.bin 5 .or (.t 3) (.c (.int .u8 ((32 : Nat) : Int)))),
  mv_ 2 4] [2])
 (.ret))
def AJ3 : List VR := [.tmp 2]
theorem AQK : Tryz.f151.body.bind (trC Tryz.prog Tryz.f151.ntmps) = some (er AJ1) := by kernel_rfl
theorem AQ4 : trR Tryz.prog Tryz.f151.results.toList = some AJ3 := by kernel_rfl
def AOZ := AE7 AJ1.eq_1
theorem AO0 {K : TV → Prop} {e : Env} {H : List Ob} : res AJ3 e H K = res [.tmp 2] e H K := AE9 rfl
def ARj := (And.intro @AOZ @AO0)
def APS := AGG 5 Tryz.func151 AQK AQ4 rfl

def ALu : AFb := .seq (.ops [mv_ 19 8,
  mv_ 20 0,
  mv_ 21 1,
  mv_ 22 2,
  mv_ 23 9,
  so_ 24 (.call 124 [.c (.string (str [80, 97, 114, 115, 101, 85, 105, 110, 116])), .t 20, .t 21, .t 22, .t 23]),
  mv_ 6 19,
  mv_ 7 24] [6, 7])
 (.ret)
def ALN : AFb := .seq (.seq (.ops [mv_ 17 9,
  po_ 18 (.eqN 1 (.t 17) (.c .nilIface) true)] [0, 1, 2, 8, 9, 18])
 (.cond (.t 18)
 ALu
 (.skip)))
 (.seq (.ops [mv_ 25 8,
  mv_ 6 25,
  po_ 7 (.mov (.c .nilIface))] [6, 7])
 (.ret))
def ALm : AFb := .seq (.ops [mv_ 11 0,
  mv_ 12 1,
  mv_ 13 2,
  so_ 14 (.call 123 [.t 11, .t 12, .t 13]),
  mv_ 10 14,
  po_ 15 (.ext 0 (.t 10)),
  po_ 16 (.ext 1 (.t 10)),
  mv_ 8 15,
  mv_ 9 16] [0, 1, 2, 8, 9])
 ALN
def AOM : AFb := .seq (.ops [po_ 6 (.mov (.c (.int .u64 ((0 : Nat) : Int)))),
  po_ 7 (.mov (.c .nilIface))] [0, 1, 2])
 ALm
def AOL : List VR := [.tmp 6, .tmp 7]
theorem AXU : Tryz.f89.body.bind (trC Tryz.prog Tryz.f89.ntmps) = some (er AOM) := by kernel_rfl
theorem AXK : trR Tryz.prog Tryz.f89.results.toList = some AOL := by kernel_rfl
def ASo := AE7 ALu.eq_1
def AQY := AE7 ALN.eq_1
def ASf := AE7 ALm.eq_1
def AUb := AE7 AOM.eq_1
theorem AUO {K : TV → Prop} {e : Env} {H : List Ob} : res AOL e H K = res [.tmp 6, .tmp 7] e H K := AE9 rfl
def AGd := (And.intro (And.intro (And.intro @ASo @AQY) (And.intro @ASf @AUb)) @AUO)
def AN4 := AGG 26 Tryz.func89 AXU AXK rfl

def ARa : AFb := .seq (.seq (.ops [mv_ 6 0,
  po_ 7 (.bin 3 .gtr (.t 6) (ci_ 0))] [0, 3, 7])
 (.cond (.t 7)
 (.skip)
 (.exit 0)))
 (.block 1 (.seq (.ops [mv_ 8 0,
  po_ 9 (.bin 3 .rem (.t 8) (ci_ 10)),
  po_ 10 (.bin 3 .add (ci_ 48) (.t 9)),
  po_ 11 (.conv .u8 (.t 10)),
  ⟨some 12, .s (.bslice 1 1 (.val (.int .u8 ((0 : Nat) : Int))) [⟨0, .t 11⟩]), none⟩,
  po_ 13 (.b2s (.t 12)),
  mv_ 14 3,
  po_ 15 (.bin 9 .add (.t 13) (.t 14)),
  mv_ 3 15] [0, 3])
 (.ops [mv_ 16 0,
  po_ 17 (.bin 3 .quo (.t 16) (ci_ 10)),
  mv_ 0 17] [0, 3])))
def ARu : AFb := .seq (.ops [mv_ 18 3,
  mv_ 2 18] [2])
 (.ret)
def AQS : AFb := .seq (.block 0 (.loop [0, 3] ARa))
 ARu
def AQ0 : AFb := .seq (.ops [po_ 3 (.mov (.c (.string (str []))))] [0, 3])
 AQS
def AR8 : AFb := .seq (.seq (.ops [mv_ 4 0,
  po_ 5 (.bin 3 .eql (.t 4) (ci_ 0))] [0, 5])
 (.cond (.t 5)
 (.seq (.ops [po_ 2 (.mov (.c (.string (str [48]))))] [2])
  (.ret))
 (.skip)))
 AQ0
def AWJ : AFb := .seq (.ops [po_ 2 (.mov (.c (.string (str []))))] [0])
 AR8
def AWS : List VR := [.tmp 2]
theorem A3d : Tryz.f69.body.bind (trC Tryz.prog Tryz.f69.ntmps) = some (er AWJ) := by kernel_rfl
theorem A3b : trR Tryz.prog Tryz.f69.results.toList = some AWS := by kernel_rfl
def AW5 := AE7 ARa.eq_1
def AYr := AE7 ARu.eq_1
def AXd := AE7 AQS.eq_1
def AYk := AE7 AQ0.eq_1
def AXv := AE7 AR8.eq_1
def A1G := AE7 AWJ.eq_1
theorem A1o {K : TV → Prop} {e : Env} {H : List Ob} : res AWS e H K = res [.tmp 2] e H K := AE9 rfl
def AMs := (And.intro (And.intro (And.intro @AW5 @AYr) (And.intro @AXd @AYk)) (And.intro (And.intro @AXv @A1G) @A1o))
def A2z := AGG 19 Tryz.func69 A3d A3b rfl

end Go.Proofs.YtliaddbbmnfioaaGreatDoor


namespace Go.Proofs.YtliaddbbmnfioaaGreatDoor
open Go.RowKit
variable [AFG]
set_option linter.unusedSectionVars false
set_option linter.unusedVariables false
set_option linter.unusedSimpArgs false

theorem APK : ∀ q : Nat, q < 100 → (bl AFQ)[q * 2]? = some (UInt8.ofNat (48 + q / 10)) ∧ (bl AFQ)[q * 2 + 1]? = some (UInt8.ofNat (48 + q % 10)) := by
 have h : ((List.range 100).all fun q => decide ((bl AFQ)[q * 2]? = some (UInt8.ofNat (48 + q / 10)) ∧ (bl AFQ)[q * 2 + 1]? = some (UInt8.ofNat (48 + q % 10)))) = true := by kernel_rfl
 intro q hq
 have := List.all_eq_true.1 h q (List.mem_range.2 hq)
 simpa using this
theorem Blw {x : Nat} (h : x < 100000000) : x % 10000 % 100 < 100 ∧ x % 10000 / 100 < 100 ∧ x / 10000 % 100 < 100 ∧ x / 10000 / 100 < 100 := by omega
theorem BiX (m : Nat) : m + 8 - 1 = m + 7 ∧ m + 8 - 2 = m + 6 ∧ m + 8 - 3 = m + 5 ∧ m + 8 - 4 = m + 4 ∧ m + 8 - 5 = m + 3 ∧ m + 8 - 6 = m + 2 ∧ m + 8 - 7 = m + 1 ∧ m + 8 - 8 = m := by omega
theorem BoU (x : Nat) : dgs 8 x = [UInt8.ofNat (48 + x / 10000 / 100 % 100 / 10), UInt8.ofNat (48 + x / 10000 / 100 % 100 % 10), UInt8.ofNat (48 + x / 10000 % 100 / 10), UInt8.ofNat (48 + x / 10000 % 100 % 10), UInt8.ofNat (48 + x % 10000 / 100 / 10), UInt8.ofNat (48 + x % 10000 / 100 % 10), UInt8.ofNat (48 + x % 10000 % 100 / 10), UInt8.ofNat (48 + x % 10000 % 100 % 10)] := by
 rw [show 8 = 2 + 6 from rfl, AUs 6 2, show 6 = 2 + 4 from rfl, AUs 4 2, show 4 = 2 + 2 from rfl, AUs 2 2, AUc, AUc, AUc, AUc]
 simp only [Nat.reducePow, List.cons_append, List.nil_append]
 rw [show x / 10000 % 100 = x / 10000 % 100 from rfl, show x / 1000000 = x / 10000 / 100 by omega, show x / 100 % 100 = x % 10000 / 100 by omega, show x % 100 = x % 10000 % 100 by omega]
set_option maxHeartbeats 1000000 in
theorem BiC {x m' nd : Nat} (hxl : x < 100000000) (hm : m' + 8 ≤ nd) (hn24 : nd ≤ 24) {P' : List UInt8} (hP' : P'.length = m' + 8) {R : List TV} {id v cp N : Nat} {H : List Ob} (hid : id < H.length) {y : TV} {Q : VEx → Env → List Ob → Prop}
  (hQ : ∀ P4 : List UInt8, P4.length = m' → Q .nor [(0, .os 1 id v [] 0 nd cp), (1, y), (4, i64 (m' : Int))] (H.set id (.obj v (.arr N 1 (P4.map by8 ++ ((dgs 8 x).map by8 ++ R)))))) :
  vwp Tryz.prog AGs Q [(0, .os 1 id v [] 0 nd cp), (1, y), (4, i64 ((m' + 8 : Nat) : Int)), (5, .val (.int .u32 (x : Int)))] (H.set id (.obj v (.arr N 1 (P'.map by8 ++ R)))) := by
 have hat : ∀ o, (H.set id o)[id]? = some o := fun o => List.getElem?_set_self hid
 obtain ⟨P4, p0, p1, p2, p3, p4, p5, p6, p7, rfl, l4⟩ : ∃ P4 p0 p1 p2 p3 p4 p5 p6 p7, P' = P4 ++ [p0, p1, p2, p3, p4, p5, p6, p7] ∧ P4.length = m' := by
  have h1 : P' = P'.take m' ++ P'.drop m' := (List.take_append_drop m' P').symm
  have h2 : (P'.drop m').length = 8 := by simp [hP']
  match hD : P'.drop m', h2 with
  | [p0, p1, p2, p3, p4, p5, p6, p7], _ => exact ⟨P'.take m', p0, p1, p2, p3, p4, p5, p6, p7, by rw [← hD]; exact h1, by simp [hP']⟩
 have l5 : (P4.map by8).length = m' := by simp [l4]
 have gA : ∀ (j : Nat) (L : List TV), (P4.map by8 ++ L)[m' + j]? = L[j]? := fun j L => by rw [List.getElem?_append_right (by omega), l5, Nat.add_sub_cancel_left]
 have gA0 : ∀ (L : List TV), (P4.map by8 ++ L)[m']? = L[0]? := fun L => gA 0 L
 have sA : ∀ (j : Nat) (L : List TV) c, (P4.map by8 ++ L).set (m' + j) c = P4.map by8 ++ L.set j c := fun j L c => by rw [List.set_append_right _ _ (by omega), l5, Nat.add_sub_cancel_left]
 have sA0 : ∀ (L : List TV) c, (P4.map by8 ++ L).set m' c = P4.map by8 ++ L.set 0 c := fun L c => sA 0 L c
 rw [List.map_append, List.append_assoc]
 obtain ⟨n1, n2, n3, n4, n5, n6, n7, n8⟩ := BiX m'
 obtain ⟨q1, q2, q3, q4⟩ := Blw hxl
 obtain ⟨a1, b1⟩ := APK (x % 10000 % 100) q1
 obtain ⟨a2, b2⟩ := APK (x % 10000 / 100) q2
 obtain ⟨a3, b3⟩ := APK (x / 10000 % 100) q3
 obtain ⟨a4, b4⟩ := APK (x / 10000 / 100) q4
 have hQ4 := hQ P4 l4
 rw [BoU, Nat.mod_eq_of_lt q4] at hQ4
 clear hQ
 simp -dsimp (disch := first | assumption | omega | (simp only [AE8]; done) | (simp only [AE8]; omega)) only [↓AFe, AFa, AFc, AFd, eq_self, Nat.reduceEqDiff, ↓reduceIte, reduceCtorEq, ↓AJI, A4R, A5f, ↓AJL, ↓AJN]
 generalize x % 10000 % 100 = z1 at *
 generalize x % 10000 / 100 = z2 at *
 generalize x / 10000 % 100 = z3 at *
 generalize x / 10000 / 100 = z4 at *
 simp -dsimp (disch := first | assumption | omega | (simp only [AE8]; done) | (simp only [AE8]; omega)) only [↓AFe, AFa, AFc, AFd, eq_self, Nat.reduceEqDiff, ↓reduceIte, reduceCtorEq, ↓AJE, ASI, a1, b1, hat, n1, n2, gA, sA]
 simp -dsimp (disch := first | assumption | omega | (simp only [AE8]; done) | (simp only [AE8]; omega)) only [↓AFe, AFa, AFc, AFd, eq_self, Nat.reduceEqDiff, ↓reduceIte, reduceCtorEq, ↓AJw, ASI, a2, b2, hat, n3, n4, gA, sA]
 simp -dsimp (disch := first | assumption | omega | (simp only [AE8]; done) | (simp only [AE8]; omega)) only [↓AFe, AFa, AFc, AFd, eq_self, Nat.reduceEqDiff, ↓reduceIte, reduceCtorEq, ↓AJG, ASI, a3, b3, hat, n5, n6, gA, sA]
 simp -dsimp (disch := first | assumption | omega | (simp only [AE8]; done) | (simp only [AE8]; omega)) only [↓AFe, AFa, AFc, AFd, eq_self, Nat.reduceEqDiff, ↓reduceIte, reduceCtorEq, ↓AJF, ASI, a4, b4, hat, n7, n8, gA, gA0, sA, sA0]
 exact hQ4
theorem BpN (x : Nat) : dgs 4 x = [UInt8.ofNat (48 + x % 10000 / 100 / 10), UInt8.ofNat (48 + x % 10000 / 100 % 10), UInt8.ofNat (48 + x % 10000 % 100 / 10), UInt8.ofNat (48 + x % 10000 % 100 % 10)] := by
 rw [show 4 = 2 + 2 from rfl, AUs 2 2, AUc, AUc]
 simp only [Nat.reducePow, List.cons_append, List.nil_append]
 rw [show x / 100 % 100 = x % 10000 / 100 by omega, show x % 100 = x % 10000 % 100 by omega]
theorem BnE {x : Nat} : x % 10000 % 100 < 100 ∧ x % 10000 / 100 < 100 ∧ x % 100 < 100 := by omega
theorem Bl9 (m : Nat) : m + 4 - 1 = m + 3 ∧ m + 4 - 2 = m + 2 ∧ m + 4 - 3 = m + 1 ∧ m + 4 - 4 = m := by omega
set_option maxHeartbeats 1000000 in
theorem BgF {x m nd : Nat} (hx : x < 10 ^ m) (hm4 : m < 4) (hm : m ≤ nd) (hn24 : nd ≤ 24) {P' : List UInt8} (hP' : P'.length = m) {R : List TV} {id v cp N : Nat} {H : List Ob} (hid : id < H.length) {K : TV → List Ob → Prop}
  (hQ : K (.tup []) (H.set id (.obj v (.arr N 1 ((dgs m x).map by8 ++ R))))) :
  vwp Tryz.prog AGp (A50 AGe K) [(0, .os 1 id v [] 0 nd cp), (4, i64 (m : Int)), (12, .val (.int .u32 (x : Int)))] (H.set id (.obj v (.arr N 1 (P'.map by8 ++ R)))) := by
 have hat : ∀ o, (H.set id o)[id]? = some o := fun o => List.getElem?_set_self hid
 have hw8 : ∀ n : Nat, n < 10 → TV.val (.int .u8 (IntKind.u8.wrap ((48 + n : Nat) : Int))) = by8 (UInt8.ofNat (48 + n)) := fun n hn => by
  show TV.val (.int .u8 (IntKind.u8.wrap ((48 + n : Nat) : Int))) = .val (.int .u8 ((UInt8.ofNat (48 + n)).toNat : Int))
  rw [Bgp]
 match m, P', hP' with
 | 0, [], _ =>
  simp -dsimp (disch := first | assumption | omega | (simp only [AE8]; done) | (simp only [AE8]; omega)) only [↓AFe, AFa, AFc, AFd, eq_self, Nat.reduceLT, Nat.reduceEqDiff, ↓reduceIte, reduceCtorEq, Nat.reduceLeDiff, ↓AFT, ↓AFS, ↓AGb]
  exact hQ
 | 1, [p0], _ =>
  have hx1 : x < 10 := by simpa using hx
  have hw := hw8 x hx1
  rw [A7H, Nat.mod_eq_of_lt hx1] at hQ
  simp -dsimp (disch := first | assumption | omega | (simp only [AE8]; done) | (simp only [AE8]; omega)) only [↓AFe, AFa, AFc, AFd, eq_self, Nat.reduceLT, Nat.reduceEqDiff, ↓reduceIte, reduceCtorEq, Nat.reduceLeDiff, ↓AFT, ↓AFS, ↓AGb, ASI, hat]
  exact hQ
 | 2, [p0, p1], _ =>
  have hx1 : x < 100 := by simpa using hx
  obtain ⟨a1, b1⟩ := APK x hx1
  rw [AUc, Nat.mod_eq_of_lt hx1] at hQ
  have hxm : x % 100 = x := Nat.mod_eq_of_lt hx1
  simp -dsimp (disch := first | assumption | omega | (simp only [AE8]; done) | (simp only [AE8]; omega)) only [↓AFe, AFa, AFc, AFd, eq_self, Nat.reduceLT, Nat.reduceEqDiff, Nat.reduceSub, ↓reduceIte, reduceCtorEq, Nat.reduceLeDiff, ↓AFT, ↓AFS, ↓AGP, A5f, A4R, hxm, ↓AGL, ↓AGM, ↓AGb, ASI, hat, a1, b1]
  exact hQ
 | 3, [p0, p1, p2], _ =>
  have hx1 : x < 1000 := by simpa using hx
  have hx2 : x / 100 < 10 := by omega
  have hx3 : x % 100 < 100 := by omega
  obtain ⟨a1, b1⟩ := APK (x % 100) hx3
  have hw := hw8 (x / 100) hx2
  rw [show 3 = 1 + 2 from rfl, AUs 2 1, AUc, A7H] at hQ
  rw [show x / 10 ^ 2 % 10 = x / 100 by omega] at hQ
  simp -dsimp (disch := first | assumption | omega | (simp only [AE8]; done) | (simp only [AE8]; omega)) only [↓AFe, AFa, AFc, AFd, eq_self, Nat.reduceEqDiff, ↓reduceIte, reduceCtorEq, Nat.reduceLeDiff, ↓AFT, ↓AFS, ↓AGP, A5f, A4R, ↓AGL]
  generalize x % 100 = z at *
  generalize x / 100 = z2 at *
  simp -dsimp (disch := first | assumption | omega | (simp only [AE8]; done) | (simp only [AE8]; omega)) only [↓AFe, AFa, AFc, AFd, eq_self, Nat.reduceLT, Nat.reduceEqDiff, Nat.reduceSub, ↓reduceIte, reduceCtorEq, ↓AGM, ↓AGb, ASI, hat, a1, b1]
  exact hQ
set_option maxHeartbeats 1000000 in
theorem BkS {x m nd : Nat} (hx : x < 10 ^ m) (hm8 : m < 8) (hx8 : x < 100000000) (hm : m ≤ nd) (hn24 : nd ≤ 24) {P' : List UInt8} (hP' : P'.length = m) {R : List TV} {id v cp N : Nat} {H : List Ob} (hid : id < H.length) {K : TV → List Ob → Prop}
  (hQ : K (.tup []) (H.set id (.obj v (.arr N 1 ((dgs m x).map by8 ++ R))))) :
  vwp Tryz.prog AGq (A50 AGe K) [(0, .os 1 id v [] 0 nd cp), (4, i64 (m : Int)), (12, .val (.int .u32 (x : Int)))] (H.set id (.obj v (.arr N 1 (P'.map by8 ++ R)))) := by
 have hat : ∀ o, (H.set id o)[id]? = some o := fun o => List.getElem?_set_self hid
 by_cases c : 4 ≤ m
 ·obtain ⟨m', rfl⟩ : ∃ m', m = m' + 4 := ⟨m - 4, by omega⟩
  obtain ⟨P4, p0, p1, p2, p3, rfl, l4⟩ : ∃ P4 p0 p1 p2 p3, P' = P4 ++ [p0, p1, p2, p3] ∧ P4.length = m' := by
   have h1 : P' = P'.take m' ++ P'.drop m' := (List.take_append_drop m' P').symm
   have h2 : (P'.drop m').length = 4 := by simp [hP']
   match hD : P'.drop m', h2 with
   | [p0, p1, p2, p3], _ => exact ⟨P'.take m', p0, p1, p2, p3, by rw [← hD]; exact h1, by simp [hP']⟩
  have l5 : (P4.map by8).length = m' := by simp [l4]
  have gA : ∀ (j : Nat) (L : List TV), (P4.map by8 ++ L)[m' + j]? = L[j]? := fun j L => by rw [List.getElem?_append_right (by omega), l5, Nat.add_sub_cancel_left]
  have gA0 : ∀ (L : List TV), (P4.map by8 ++ L)[m']? = L[0]? := fun L => gA 0 L
  have sA : ∀ (j : Nat) (L : List TV) c, (P4.map by8 ++ L).set (m' + j) c = P4.map by8 ++ L.set j c := fun j L c => by rw [List.set_append_right _ _ (by omega), l5, Nat.add_sub_cancel_left]
  have sA0 : ∀ (L : List TV) c, (P4.map by8 ++ L).set m' c = P4.map by8 ++ L.set 0 c := fun L c => sA 0 L c
  rw [List.map_append, List.append_assoc]
  have hx4 : x / 10000 < 10 ^ m' := by rw [Nat.pow_add] at hx; omega
  rw [show m' + 4 = m' + 4 from rfl, AUs 4 m', show (10 : Nat) ^ 4 = 10000 from rfl, BpN, List.map_append, List.append_assoc] at hQ
  clear hx
  obtain ⟨n1, n2, n3, n4⟩ := Bl9 m'
  obtain ⟨q1, q2, _⟩ := BnE (x := x)
  obtain ⟨a1, b1⟩ := APK (x % 10000 % 100) q1
  obtain ⟨a2, b2⟩ := APK (x % 10000 / 100) q2
  have fin := BgF (R := [by8 (UInt8.ofNat (48 + x % 10000 / 100 / 10)), by8 (UInt8.ofNat (48 + x % 10000 / 100 % 10)), by8 (UInt8.ofNat (48 + x % 10000 % 100 / 10)), by8 (UInt8.ofNat (48 + x % 10000 % 100 % 10))] ++ R) (cp := cp) hx4 (by omega) (nd := nd) (by omega) hn24 l4 hid (K := K) hQ
  clear hQ hx4
  simp -dsimp (disch := first | assumption | omega | (simp only [AE8]; done) | (simp only [AE8]; omega)) only [↓AFe, AFa, AFc, AFd, eq_self, Nat.reduceEqDiff, ↓reduceIte, reduceCtorEq, Nat.reduceLeDiff, ↓AGN, ↓AGQ, ↓AJt, ↓AJr, A4R, A5f, ↓AJp]
  generalize x % 10000 % 100 = z1 at *
  generalize x % 10000 / 100 = z2 at *
  simp -dsimp (disch := first | assumption | omega | (simp only [AE8]; done) | (simp only [AE8]; omega)) only [↓AFe, AFa, AFc, AFd, eq_self, Nat.reduceEqDiff, ↓reduceIte, reduceCtorEq, ↓AJq, ASI, a1, b1, hat, n1, n2, gA, sA]
  simp -dsimp (disch := first | assumption | omega | (simp only [AE8]; done) | (simp only [AE8]; omega)) only [↓AFe, AFa, AFc, AFd, eq_self, Nat.reduceEqDiff, ↓reduceIte, reduceCtorEq, ↓AJs, ASI, a2, b2, hat, n3, n4, gA, gA0, sA, sA0]
  exact fin
 ·have fin := BgF (R := R) (cp := cp) hx (by omega) hm hn24 hP' hid hQ
  clear hx hx8 hQ
  simp -dsimp (disch := first | assumption | omega | (simp only [AE8]; done) | (simp only [AE8]; omega)) only [↓AFe, AFa, AFc, AFd, eq_self, Nat.reduceEqDiff, ↓reduceIte, reduceCtorEq, ↓AGN, ↓AGQ]
  exact fin
theorem Bot : ∀ {nd : Nat} {u : Nat} (hu : u < 10 ^ nd) (hnd : 1 ≤ nd) (hn24 : nd ≤ 24) (hu2 : u < 18446744073709551616) {P : List UInt8} {Q : List TV} (hP : P.length = nd) {id v cp N : Nat} {H : List Ob} (ho : H[id]? = some (.obj v (.arr N 1 (P.map by8 ++ Q)))) {K : TV → List Ob → Prop}
  (hK : K (.tup []) (H.set id (.obj v (.arr N 1 ((dgs nd u).map by8 ++ Q))))), AFk Tryz.prog 128 [.os 1 id v [] 0 nd cp, .val (.int .u64 (u : Int))] H K := by
 intro nd u hu hnd hn24 hu2 P Q hP id v cp N H ho K hK
 refine ALf (by simp) ?_
 have hid : id < H.length := (List.getElem?_eq_some_iff.1 ho).1
 have hsame : ∀ o, H[id]? = some o → H.set id o = H := fun o h => by
  apply List.ext_getElem?
  intro j
  rw [List.getElem?_set]
  split
  ·rename_i e; subst e; simp [h]
  ·rfl
 simp -dsimp (disch := first | assumption | omega | (simp only [AE8]; done) | (simp only [AE8]; omega)) only [↓AFe, AFa, AFc, AFd, eq_self, Nat.reduceEqDiff, ↓reduceIte, Nat.reduceAdd, reduceCtorEq, ↓AKc, ↓AJv]
 refine AI0 (fun q e H' => ∃ (m u' : Nat) (P' S : List UInt8), q = m ∧ m ≤ nd ∧ u' < 10 ^ m ∧ u' < 18446744073709551616 ∧ P'.length = m ∧ dgs nd u = dgs m u' ++ S ∧ H' = H.set id (.obj v (.arr N 1 (P'.map by8 ++ (S.map by8 ++ Q)))) ∧ e = [(0, .os 1 id v [] 0 nd cp), (1, .val (.int .u64 (u' : Int))), (4, i64 (m : Int))]) nd ?_ ?_
 ·refine ⟨nd, u, P, [], rfl, Nat.le_refl _, hu, hu2, hP, by simp, ?_, by simp [forget, get]⟩
  rw [List.map_nil, List.nil_append]
  exact (hsame _ ho).symm
 ·rintro q e H' ⟨m, u', P', S, rfl, hm, hu', hu2', hP', hS, rfl, rfl⟩
  have hat : ∀ o, (H.set id o)[id]? = some o := fun o => List.getElem?_set_self hid
  by_cases c : 8 ≤ q
  ·obtain ⟨m', rfl⟩ : ∃ m', q = m' + 8 := ⟨q - 8, by omega⟩
   obtain ⟨x, hx⟩ : ∃ x, x = u' % 100000000 := ⟨_, rfl⟩
   have hxl : x < 100000000 := by omega
   have hw : IntKind.u32.wrap (x : Int) = (x : Int) := A52 (by omega)
   simp -dsimp (disch := first | assumption | omega | (simp only [AE8]; done) | (simp only [AE8]; omega)) only [↓AFe, AFa, AFc, AFd, eq_self, Nat.reduceEqDiff, ↓reduceIte, reduceCtorEq, Nat.reduceLeDiff, ↓AGO, ↓AJA, ↓AJx, A8c]
   rw [← hx, hw]
   have hu8 : u' / 100000000 < 10 ^ m' := by rw [Nat.pow_add] at hu'; omega
   have hd8 : dgs (m' + 8) u' = dgs m' (u' / 100000000) ++ dgs 8 x := by
    rw [AUs 8 m', BoU, BoU, show (10 : Nat) ^ 8 = 100000000 from rfl]
    congr 1
    rw [show x / 10000 / 100 % 100 = u' / 10000 / 100 % 100 by omega, show x / 10000 % 100 = u' / 10000 % 100 by omega, show x % 10000 = u' % 10000 by omega]
   refine BiC (R := S.map by8 ++ Q) hxl hm hn24 hP' hid fun P4 hP4 => ?_
   simp -dsimp (disch := first | assumption | omega | (simp only [AE8]; done) | (simp only [AE8]; omega)) only [↓AFe]
   refine AFO m' (by omega) (by simp) ⟨m', u' / 100000000, P4, dgs 8 x ++ S, rfl, by omega, hu8, by omega, hP4, by rw [hS, hd8, List.append_assoc], by rw [List.map_append, List.append_assoc], by simp [forget, get]⟩
  ·have hu8 : u' < 100000000 := Nat.lt_of_lt_of_le hu' (Nat.le_trans (Nat.pow_le_pow_right (by omega) (show q ≤ 8 by omega)) (by decide))
   have hw : IntKind.u32.wrap (u' : Int) = (u' : Int) := A52 (by omega)
   rw [hS, List.map_append, List.append_assoc] at hK
   have fin := BkS (R := S.map by8 ++ Q) (cp := cp) hu' (by omega) hu8 hm hn24 hP' hid hK
   clear hK hu hu'
   simp -dsimp (disch := first | assumption | omega | (simp only [AE8]; done) | (simp only [AE8]; omega)) only [↓AFe, AFa, AFc, AFd, eq_self, Nat.reduceEqDiff, ↓reduceIte, reduceCtorEq, ↓AGO, ↓AJu, hw]
   exact fin
end Go.Proofs.YtliaddbbmnfioaaGreatDoor


namespace Go.Proofs
open Go.Shelf
def Tryz.lays160_ren : Go.Shelf.Ren := ⟨fun | 160 => 59 | 232 => 94 | 231 => 93 | 227 => 95 | 234 => 97 | 233 => 96 | 236 => 99 | 235 => 98 | 228 => 130 | 271 => 133 | 151 => 132 | 197 => 131 | 120 => 164 | 152 => 157 | 260 => 163 | 137 => 136 | 119 => 175 | 224 => 149 | 225 => 166 | 217 => 165 | 266 => 178 | n => n, fun | 9 => 9 | 4 => 4 | 3 => 3 | 5 => 5 | 117 => 169 | 116 => 168 | 0 => 0 | 124 => 172 | 21 => 21 | 105 => 213 | 46 => 123 | 119 => 247 | 139 => 250 | 138 => 249 | n => n, fun | 3 => 6 | 4 => 7 | n => n⟩
theorem Tryz.lays160 : Go.Proofs.Lays.n160 Tryz.prog Tryz.lays160_ren := {
 mixed := by kernel_rfl
 f119 := Tryz.func175.trans (congrArg some (by kernel_rfl))
 f120 := Tryz.func164.trans (congrArg some (by kernel_rfl))
 f137 := Tryz.func136.trans (congrArg some (by kernel_rfl))
 f151 := Tryz.func132.trans (congrArg some (by kernel_rfl))
 f152 := Tryz.func157.trans (congrArg some (by kernel_rfl))
 f160 := Tryz.func59.trans (congrArg some (by kernel_rfl))
 f197 := Tryz.func131.trans (congrArg some (by kernel_rfl))
 f217 := Tryz.func165.trans (congrArg some (by kernel_rfl))
 f224 := Tryz.func149.trans (congrArg some (by kernel_rfl))
 f225 := Tryz.func166.trans (congrArg some (by kernel_rfl))
 f227 := Tryz.func95.trans (congrArg some (by kernel_rfl))
 f228 := Tryz.func130.trans (congrArg some (by kernel_rfl))
 f231 := Tryz.func93.trans (congrArg some (by kernel_rfl))
 f232 := Tryz.func94.trans (congrArg some (by kernel_rfl))
 f233 := Tryz.func96.trans (congrArg some (by kernel_rfl))
 f234 := Tryz.func97.trans (congrArg some (by kernel_rfl))
 f235 := Tryz.func98.trans (congrArg some (by kernel_rfl))
 f236 := Tryz.func99.trans (congrArg some (by kernel_rfl))
 f260 := Tryz.func163.trans (congrArg some (by kernel_rfl))
 f266 := Tryz.func178.trans (congrArg some (by kernel_rfl))
 f271 := Tryz.func133.trans (congrArg some (by kernel_rfl))
 t0 := Tryz.underlying0
 a0 := Tryz.isAgg0
 z0 := Tryz.sizeOf0
 v0 := Tryz.zeroValue0
 t3 := Tryz.underlying3
 a3 := Tryz.isAgg3
 z3 := Tryz.sizeOf3
 v3 := Tryz.zeroValue3
 t4 := Tryz.underlying4
 a4 := Tryz.isAgg4
 z4 := Tryz.sizeOf4
 v4 := Tryz.zeroValue4
 t5 := Tryz.underlying5
 a5 := Tryz.isAgg5
 z5 := Tryz.sizeOf5
 v5 := Tryz.zeroValue5
 t9 := Tryz.underlying9
 a9 := Tryz.isAgg9
 z9 := Tryz.sizeOf9
 v9 := Tryz.zeroValue9
 t21 := Tryz.underlying21
 a21 := Tryz.isAgg21
 z21 := Tryz.sizeOf21
 v21 := Tryz.zeroValue21
 t46 := Tryz.underlying123
 a46 := Tryz.isAgg123
 z46 := Tryz.sizeOf123
 v46 := Tryz.zeroValue123
 t105 := Tryz.underlying213
 a105 := Tryz.isAgg213
 z105 := Tryz.sizeOf213
 v105 := Tryz.zeroValue213
 t116 := Tryz.underlying168
 a116 := Tryz.isAgg168
 z116 := Tryz.sizeOf168
 t117 := Tryz.underlying169
 a117 := Tryz.isAgg169
 z117 := Tryz.sizeOf169
 v117 := Tryz.zeroValue169
 t119 := Tryz.underlying247
 a119 := Tryz.isAgg247
 z119 := Tryz.sizeOf247
 t124 := Tryz.underlying172
 a124 := Tryz.isAgg172
 z124 := Tryz.sizeOf172
 v124 := Tryz.zeroValue172
 t138 := Tryz.underlying249
 a138 := Tryz.isAgg249
 z138 := Tryz.sizeOf249
 v138 := Tryz.zeroValue249
 t139 := Tryz.underlying250
 a139 := Tryz.isAgg250
 z139 := Tryz.sizeOf250
 v139 := Tryz.zeroValue250
 g3 := by kernel_rfl
 g4 := by kernel_rfl }
open Go.RowKit in
/-- strings.Trim: "Trim returns a slice of the string s with all leading and trailing Unicode code points contained in cutset removed.": AT A cutset OF ONE ASCII BYTE. THE WORLD BEHIND IT: aS it was, or (where s is not empty) with ONE DRAW MORE off the tape: the statement 'return trimLeftByte(trimRightByte(s, c), c)' draws its order of evaluation. (LAID: no walk: one application.) -/
theorem Tryz.strings_Trim_one (s : ByteArray) (c : UInt8) (hc : c.toNat < 128) (w : World) (hs : s.size ≤ 9223372036854775807) :
  Calls Tryz.prog 59 #[.string s, .string ⟨#[c]⟩] w fun e w' => e = .returned (.string ⟨(Lib.trimB s.data.toList c).toArray⟩) ∧ (w' = w ∨ w' = w.drew) := Any.strings_Trim_one Tryz.lays160 s c hc w hs
def Tryz.lays119_ren : Go.Shelf.Ren := ⟨fun | 119 => 175 | n => n, fun | 21 => 21 | 4 => 4 | n => n, fun | n => n⟩
theorem Tryz.lays119 : Go.Proofs.Lays.n119 Tryz.prog Tryz.lays119_ren := {
 mixed := by kernel_rfl
 f119 := Tryz.func175.trans (congrArg some (by kernel_rfl))
 t4 := Tryz.underlying4
 a4 := Tryz.isAgg4
 z4 := Tryz.sizeOf4
 v4 := Tryz.zeroValue4
 t21 := Tryz.underlying21
 a21 := Tryz.isAgg21
 z21 := Tryz.sizeOf21
 v21 := Tryz.zeroValue21 }
/-- utf8.ValidRune: "ValidRune reports whether r can be legally encoded as UTF-8. Code points that are out of range or a surrogate half are illegal.": IT RETURNS 'Lib.validRune r'; the world is aS it was. (LAID: no walk: one application.) -/
theorem Tryz.utf8_ValidRune (r : Int) (w : World) :
  Calls Tryz.prog 175 #[.int .i32 r] w fun e w' => e = .returned (.bool (Lib.validRune r)) ∧ w' = w := Any.utf8_ValidRune Tryz.lays119 r w
def Tryz.lays137_ren : Go.Shelf.Ren := ⟨fun | 137 => 136 | 217 => 165 | 266 => 178 | n => n, fun | 9 => 9 | 5 => 5 | 3 => 3 | n => n, fun | n => n⟩
theorem Tryz.lays137 : Go.Proofs.Lays.n137 Tryz.prog Tryz.lays137_ren := {
 mixed := by kernel_rfl
 f137 := Tryz.func136.trans (congrArg some (by kernel_rfl))
 f217 := Tryz.func165.trans (congrArg some (by kernel_rfl))
 f266 := Tryz.func178.trans (congrArg some (by kernel_rfl))
 t3 := Tryz.underlying3
 a3 := Tryz.isAgg3
 z3 := Tryz.sizeOf3
 v3 := Tryz.zeroValue3
 t5 := Tryz.underlying5
 a5 := Tryz.isAgg5
 z5 := Tryz.sizeOf5
 v5 := Tryz.zeroValue5
 t9 := Tryz.underlying9
 a9 := Tryz.isAgg9
 z9 := Tryz.sizeOf9
 v9 := Tryz.zeroValue9 }
open Go.RowKit in
/-- strings.IndexByte: "IndexByte returns the index of the first instance of c in s, or -1 if c is not present in s.": IT RETURNS 'Lib.indexByte s c'; the world is aS it was. (LAID: no walk: one application.) -/
theorem Tryz.strings_IndexByte (s : ByteArray) (c : Int) (w : World) :
  Calls Tryz.prog 136 #[.string s, .int .u8 c] w fun e w' => e = .returned (.int .i64 (Lib.indexByte s.data.toList c.toNat.toUInt8)) ∧ w' = w := Any.strings_IndexByte Tryz.lays137 s c w
def Tryz.lays103_ren : Go.Shelf.Ren := ⟨fun | 103 => 107 | 210 => 138 | 206 => 169 | n => n, fun | 9 => 9 | 4 => 4 | 24 => 76 | 3 => 3 | n => n, fun | n => n⟩
theorem Tryz.lays103 : Go.Proofs.Lays.n103 Tryz.prog Tryz.lays103_ren := {
 mixed := by kernel_rfl
 f103 := Tryz.func107.trans (congrArg some (by kernel_rfl))
 f206 := Tryz.func169.trans (congrArg some (by kernel_rfl))
 f210 := Tryz.func138.trans (congrArg some (by kernel_rfl))
 t3 := Tryz.underlying3
 a3 := Tryz.isAgg3
 z3 := Tryz.sizeOf3
 v3 := Tryz.zeroValue3
 t4 := Tryz.underlying4
 a4 := Tryz.isAgg4
 z4 := Tryz.sizeOf4
 v4 := Tryz.zeroValue4
 t9 := Tryz.underlying9
 a9 := Tryz.isAgg9
 z9 := Tryz.sizeOf9
 v9 := Tryz.zeroValue9
 t24 := Tryz.underlying76
 a24 := Tryz.isAgg76
 z24 := Tryz.sizeOf76
 v24 := Tryz.zeroValue76 }
open Go.RowKit in
/-- strings.CutPrefix: "CutPrefix returns s without the provided leading prefix string and reports whether it found the prefix. If s doesn't start with prefix, CutPrefix returns s, false. If prefix is the empty string, CutPrefix returns s, true.": IT RETURNS '(Lib.trimPrefix s p, Lib.hasPrefix s p)'; the world is aS it was. (LAID: no walk: one application.) -/
theorem Tryz.strings_CutPrefix (s p : ByteArray) (w : World) :
  Calls Tryz.prog 107 #[.string s, .string p] w fun e w' => e = .returned (.tuple #[.string ⟨(Lib.trimPrefix s.data.toList p.data.toList).toArray⟩, .bool (Lib.hasPrefix s.data.toList p.data.toList)]) ∧ w' = w := Any.strings_CutPrefix Tryz.lays103 s p w
def Tryz.lays283_ren : Go.Shelf.Ren := ⟨fun | 283 => 126 | n => n, fun | 3 => 3 | 9 => 9 | 4 => 4 | n => n, fun | n => n⟩
theorem Tryz.lays283 : Go.Proofs.Lays.n283 Tryz.prog Tryz.lays283_ren := {
 mixed := by kernel_rfl
 f283 := Tryz.func126.trans (congrArg some (by kernel_rfl))
 t3 := Tryz.underlying3
 a3 := Tryz.isAgg3
 z3 := Tryz.sizeOf3
 v3 := Tryz.zeroValue3
 t4 := Tryz.underlying4
 a4 := Tryz.isAgg4
 z4 := Tryz.sizeOf4
 v4 := Tryz.zeroValue4
 t9 := Tryz.underlying9
 a9 := Tryz.isAgg9
 z9 := Tryz.sizeOf9
 v9 := Tryz.zeroValue9 }
open Go.Lib in
/-- internal/strconv.small: "small returns the string for an i with 0 <= i < nSmalls.": i's decimal numeral. The world is aS it was. (LAID: no walk: one application.) -/
theorem Tryz.internal_strconv_small (i : Nat) (h : i < 100) (w : World) :
  Calls Tryz.prog 126 #[.int .i64 i] w fun e w' => e = .returned (.string ⟨(Lib.decDigits i).toArray⟩) ∧ w' = w := Any.internal_strconv_small Tryz.lays283 i h w
def Tryz.laysM284_ren : Go.Shelf.Ren := ⟨fun | 284 => 127 | 129 => 119 | 317 => 159 | 318 => 160 | n => n, fun | 53 => 163 | 3 => 3 | 212 => 235 | 0 => 0 | 4 => 4 | 46 => 123 | 5 => 5 | 9 => 9 | n => n, fun | 17 => 3 | n => n⟩
theorem Tryz.laysM284 : Go.Proofs.LaysM.n284 Tryz.prog Tryz.laysM284_ren := {
 mixed := by kernel_rfl
 f129 := Tryz.func119.trans (congrArg some (by kernel_rfl))
 f284 := Tryz.func127.trans (congrArg some (by kernel_rfl))
 f317 := Tryz.func159.trans (congrArg some (by kernel_rfl))
 f318 := Tryz.func160.trans (congrArg some (by kernel_rfl))
 t0 := Tryz.underlying0
 a0 := Tryz.isAgg0
 z0 := Tryz.sizeOf0
 v0 := Tryz.zeroValue0
 t3 := Tryz.underlying3
 a3 := Tryz.isAgg3
 z3 := Tryz.sizeOf3
 v3 := Tryz.zeroValue3
 t4 := Tryz.underlying4
 a4 := Tryz.isAgg4
 z4 := Tryz.sizeOf4
 v4 := Tryz.zeroValue4
 t5 := Tryz.underlying5
 a5 := Tryz.isAgg5
 z5 := Tryz.sizeOf5
 v5 := Tryz.zeroValue5
 t9 := Tryz.underlying9
 a9 := Tryz.isAgg9
 z9 := Tryz.sizeOf9
 v9 := Tryz.zeroValue9
 t46 := Tryz.underlying123
 a46 := Tryz.isAgg123
 z46 := Tryz.sizeOf123
 v46 := Tryz.zeroValue123
 t53 := Tryz.underlying163
 a53 := Tryz.isAgg163
 z53 := Tryz.sizeOf163
 v53 := Tryz.zeroValue163
 t212 := Tryz.underlying235
 a212 := Tryz.isAgg235
 z212 := Tryz.sizeOf235
 v212 := Tryz.zeroValue235
 g17 := by kernel_rfl
 i0 := by kernel_rfl
 i3 := by kernel_rfl
 i4 := by kernel_rfl
 i5 := by kernel_rfl
 i9 := by kernel_rfl
 i46 := by kernel_rfl
 i53 := by kernel_rfl
 i212 := by kernel_rfl
 m17 := by kernel_rfl }
open Go.Lib in
/-- internal/strconv.numDigits, at a d that is not 0: THE NUMBER OF d's DECIMAL DIGITS. The world is aS it was. (LAID: no walk: one application.) -/
theorem Tryz.internal_strconv_numDigits (u : Nat) (h1 : 1 ≤ u) (h2 : u < 18446744073709551616) (w : World) (htab : Lib.TabIs Tryz.prog w "internal/strconv.uint64pow10" .u64 Lib.pow10Tab) :
  Calls Tryz.prog 127 #[.int .u64 u] w fun e w' => e = .returned (.int .i64 (Lib.nDigits u)) ∧ w' = w := Any.internal_strconv_numDigits Tryz.laysM284 u h1 h2 w htab
def Tryz.laysM171_ren : Go.Shelf.Ren := ⟨fun | 171 => 57 | 243 => 91 | 246 => 92 | 283 => 126 | 284 => 127 | 285 => 128 | 286 => 129 | 129 => 119 | 317 => 159 | 318 => 160 | 319 => 161 | 320 => 162 | 337 => 176 | 338 => 177 | n => n, fun | 3 => 3 | 9 => 9 | 2 => 2 | 4 => 4 | 171 => 208 | 0 => 0 | 53 => 163 | 37 => 29 | 5 => 5 | 173 => 210 | 212 => 235 | 51 => 203 | 20 => 20 | 213 => 236 | 46 => 123 | 232 => 255 | 233 => 256 | n => n, fun | 17 => 3 | 18 => 8 | 19 => 9 | n => n⟩
theorem Tryz.laysM171 : Go.Proofs.LaysM.n171 Tryz.prog Tryz.laysM171_ren := {
 mixed := by kernel_rfl
 f129 := Tryz.func119.trans (congrArg some (by kernel_rfl))
 f171 := Tryz.func57.trans (congrArg some (by kernel_rfl))
 f243 := Tryz.func91.trans (congrArg some (by kernel_rfl))
 f246 := Tryz.func92.trans (congrArg some (by kernel_rfl))
 f283 := Tryz.func126.trans (congrArg some (by kernel_rfl))
 f284 := Tryz.func127.trans (congrArg some (by kernel_rfl))
 f285 := Tryz.func128.trans (congrArg some (by kernel_rfl))
 f286 := Tryz.func129.trans (congrArg some (by kernel_rfl))
 f317 := Tryz.func159.trans (congrArg some (by kernel_rfl))
 f318 := Tryz.func160.trans (congrArg some (by kernel_rfl))
 f319 := Tryz.func161.trans (congrArg some (by kernel_rfl))
 f320 := Tryz.func162.trans (congrArg some (by kernel_rfl))
 f337 := Tryz.func176.trans (congrArg some (by kernel_rfl))
 f338 := Tryz.func177.trans (congrArg some (by kernel_rfl))
 t0 := Tryz.underlying0
 a0 := Tryz.isAgg0
 z0 := Tryz.sizeOf0
 v0 := Tryz.zeroValue0
 t2 := Tryz.underlying2
 a2 := Tryz.isAgg2
 z2 := Tryz.sizeOf2
 v2 := Tryz.zeroValue2
 t3 := Tryz.underlying3
 a3 := Tryz.isAgg3
 z3 := Tryz.sizeOf3
 v3 := Tryz.zeroValue3
 t4 := Tryz.underlying4
 a4 := Tryz.isAgg4
 z4 := Tryz.sizeOf4
 v4 := Tryz.zeroValue4
 t5 := Tryz.underlying5
 a5 := Tryz.isAgg5
 z5 := Tryz.sizeOf5
 v5 := Tryz.zeroValue5
 t9 := Tryz.underlying9
 a9 := Tryz.isAgg9
 z9 := Tryz.sizeOf9
 v9 := Tryz.zeroValue9
 t20 := Tryz.underlying20
 a20 := Tryz.isAgg20
 z20 := Tryz.sizeOf20
 v20 := Tryz.zeroValue20
 t37 := Tryz.underlying29
 a37 := Tryz.isAgg29
 z37 := Tryz.sizeOf29
 v37 := Tryz.zeroValue29
 t46 := Tryz.underlying123
 a46 := Tryz.isAgg123
 z46 := Tryz.sizeOf123
 v46 := Tryz.zeroValue123
 t51 := Tryz.underlying203
 a51 := Tryz.isAgg203
 z51 := Tryz.sizeOf203
 v51 := Tryz.zeroValue203
 t53 := Tryz.underlying163
 a53 := Tryz.isAgg163
 z53 := Tryz.sizeOf163
 v53 := Tryz.zeroValue163
 t171 := Tryz.underlying208
 a171 := Tryz.isAgg208
 z171 := Tryz.sizeOf208
 v171 := Tryz.zeroValue208
 t173 := Tryz.underlying210
 a173 := Tryz.isAgg210
 z173 := Tryz.sizeOf210
 v173 := Tryz.zeroValue210
 t212 := Tryz.underlying235
 a212 := Tryz.isAgg235
 z212 := Tryz.sizeOf235
 v212 := Tryz.zeroValue235
 t213 := Tryz.underlying236
 a213 := Tryz.isAgg236
 z213 := Tryz.sizeOf236
 t232 := Tryz.underlying255
 a232 := Tryz.isAgg255
 z232 := Tryz.sizeOf255
 v232 := Tryz.zeroValue255
 t233 := Tryz.underlying256
 a233 := Tryz.isAgg256
 z233 := Tryz.sizeOf256
 v233 := Tryz.zeroValue256
 g17 := by kernel_rfl
 g18 := by kernel_rfl
 g19 := by kernel_rfl
 i0 := by kernel_rfl
 i2 := by kernel_rfl
 i3 := by kernel_rfl
 i4 := by kernel_rfl
 i5 := by kernel_rfl
 i9 := by kernel_rfl
 i20 := by kernel_rfl
 i37 := by kernel_rfl
 i46 := by kernel_rfl
 i51 := by kernel_rfl
 i53 := by kernel_rfl
 i171 := by kernel_rfl
 i173 := by kernel_rfl
 i212 := by kernel_rfl
 i232 := by kernel_rfl
 i233 := by kernel_rfl
 m17 := by kernel_rfl
 m18 := by kernel_rfl
 m19 := by kernel_rfl }
open Go.RowKit Go.Sort Go.Lib in
/-- strconv.Itoa: "Itoa is equivalent to FormatInt(int64(i), 10).": i's DECIMAL NUMERAL ('Lib.itoa': a '-' where i is negative, then the digits), FOR EVERY int. The world behind the call: the world before it, new blocks behind the heap (the library's 'var a [24]byte'), draws. (LAID: no walk: one application.) -/
theorem Tryz.strconv_Itoa (n : Int) (h0 : -9223372036854775808 ≤ n) (h1 : n ≤ 9223372036854775807) (w : World) (htab : Lib.TabIs Tryz.prog w "internal/strconv.uint64pow10" .u64 Lib.pow10Tab) :
  Calls Tryz.prog 57 #[.int .i64 n] w fun e w' => e = .returned (.string ⟨(Lib.itoa n).toArray⟩) ∧ ∃ k os, w' = grow (w.drewN k) os := Any.strconv_Itoa Tryz.laysM171 n h0 h1 w htab
def Tryz.laysM173_ren : Go.Shelf.Ren := ⟨fun | 173 => 58 | 246 => 92 | 283 => 126 | 284 => 127 | 285 => 128 | 286 => 129 | 129 => 119 | 317 => 159 | 318 => 160 | 319 => 161 | 320 => 162 | 337 => 176 | 338 => 177 | n => n, fun | 2 => 2 | 3 => 3 | 9 => 9 | 4 => 4 | 171 => 208 | 0 => 0 | 53 => 163 | 37 => 29 | 5 => 5 | 173 => 210 | 212 => 235 | 51 => 203 | 20 => 20 | 213 => 236 | 46 => 123 | 232 => 255 | 233 => 256 | n => n, fun | 17 => 3 | 18 => 8 | 19 => 9 | n => n⟩
theorem Tryz.laysM173 : Go.Proofs.LaysM.n173 Tryz.prog Tryz.laysM173_ren := {
 mixed := by kernel_rfl
 f129 := Tryz.func119.trans (congrArg some (by kernel_rfl))
 f173 := Tryz.func58.trans (congrArg some (by kernel_rfl))
 f246 := Tryz.func92.trans (congrArg some (by kernel_rfl))
 f283 := Tryz.func126.trans (congrArg some (by kernel_rfl))
 f284 := Tryz.func127.trans (congrArg some (by kernel_rfl))
 f285 := Tryz.func128.trans (congrArg some (by kernel_rfl))
 f286 := Tryz.func129.trans (congrArg some (by kernel_rfl))
 f317 := Tryz.func159.trans (congrArg some (by kernel_rfl))
 f318 := Tryz.func160.trans (congrArg some (by kernel_rfl))
 f319 := Tryz.func161.trans (congrArg some (by kernel_rfl))
 f320 := Tryz.func162.trans (congrArg some (by kernel_rfl))
 f337 := Tryz.func176.trans (congrArg some (by kernel_rfl))
 f338 := Tryz.func177.trans (congrArg some (by kernel_rfl))
 t0 := Tryz.underlying0
 a0 := Tryz.isAgg0
 z0 := Tryz.sizeOf0
 v0 := Tryz.zeroValue0
 t2 := Tryz.underlying2
 a2 := Tryz.isAgg2
 z2 := Tryz.sizeOf2
 v2 := Tryz.zeroValue2
 t3 := Tryz.underlying3
 a3 := Tryz.isAgg3
 z3 := Tryz.sizeOf3
 v3 := Tryz.zeroValue3
 t4 := Tryz.underlying4
 a4 := Tryz.isAgg4
 z4 := Tryz.sizeOf4
 v4 := Tryz.zeroValue4
 t5 := Tryz.underlying5
 a5 := Tryz.isAgg5
 z5 := Tryz.sizeOf5
 v5 := Tryz.zeroValue5
 t9 := Tryz.underlying9
 a9 := Tryz.isAgg9
 z9 := Tryz.sizeOf9
 v9 := Tryz.zeroValue9
 t20 := Tryz.underlying20
 a20 := Tryz.isAgg20
 z20 := Tryz.sizeOf20
 v20 := Tryz.zeroValue20
 t37 := Tryz.underlying29
 a37 := Tryz.isAgg29
 z37 := Tryz.sizeOf29
 v37 := Tryz.zeroValue29
 t46 := Tryz.underlying123
 a46 := Tryz.isAgg123
 z46 := Tryz.sizeOf123
 v46 := Tryz.zeroValue123
 t51 := Tryz.underlying203
 a51 := Tryz.isAgg203
 z51 := Tryz.sizeOf203
 v51 := Tryz.zeroValue203
 t53 := Tryz.underlying163
 a53 := Tryz.isAgg163
 z53 := Tryz.sizeOf163
 v53 := Tryz.zeroValue163
 t171 := Tryz.underlying208
 a171 := Tryz.isAgg208
 z171 := Tryz.sizeOf208
 v171 := Tryz.zeroValue208
 t173 := Tryz.underlying210
 a173 := Tryz.isAgg210
 z173 := Tryz.sizeOf210
 v173 := Tryz.zeroValue210
 t212 := Tryz.underlying235
 a212 := Tryz.isAgg235
 z212 := Tryz.sizeOf235
 v212 := Tryz.zeroValue235
 t213 := Tryz.underlying236
 a213 := Tryz.isAgg236
 z213 := Tryz.sizeOf236
 t232 := Tryz.underlying255
 a232 := Tryz.isAgg255
 z232 := Tryz.sizeOf255
 v232 := Tryz.zeroValue255
 t233 := Tryz.underlying256
 a233 := Tryz.isAgg256
 z233 := Tryz.sizeOf256
 v233 := Tryz.zeroValue256
 g17 := by kernel_rfl
 g18 := by kernel_rfl
 g19 := by kernel_rfl
 i0 := by kernel_rfl
 i2 := by kernel_rfl
 i3 := by kernel_rfl
 i4 := by kernel_rfl
 i5 := by kernel_rfl
 i9 := by kernel_rfl
 i20 := by kernel_rfl
 i37 := by kernel_rfl
 i46 := by kernel_rfl
 i51 := by kernel_rfl
 i53 := by kernel_rfl
 i171 := by kernel_rfl
 i173 := by kernel_rfl
 i212 := by kernel_rfl
 i232 := by kernel_rfl
 i233 := by kernel_rfl
 m17 := by kernel_rfl
 m18 := by kernel_rfl
 m19 := by kernel_rfl }
open Go.RowKit Go.Sort Go.Lib in
/-- strconv.FormatInt: "FormatInt returns the string representation of i in the given base": AT BASE 10: i's decimal numeral, for every int64. (LAID: no walk: one application.) -/
theorem Tryz.strconv_FormatInt_10 (n : Int) (h0 : -9223372036854775808 ≤ n) (h1 : n ≤ 9223372036854775807) (w : World) (htab : Lib.TabIs Tryz.prog w "internal/strconv.uint64pow10" .u64 Lib.pow10Tab) :
  Calls Tryz.prog 58 #[.int .i64 n, .int .i64 10] w fun e w' => e = .returned (.string ⟨(Lib.itoa n).toArray⟩) ∧ ∃ k os, w' = grow (w.drewN k) os := Any.strconv_FormatInt_10 Tryz.laysM173 n h0 h1 w htab
def Tryz.laysC245_ren : Go.Shelf.Ren := ⟨fun | 245 => 124 | 279 => 153 | 280 => 154 | 281 => 155 | 282 => 156 | 316 => 173 | 171 => 57 | 205 => 174 | 243 => 91 | 246 => 92 | 283 => 126 | 284 => 127 | 285 => 128 | 286 => 129 | 129 => 119 | 317 => 159 | 318 => 160 | 319 => 161 | 320 => 162 | 337 => 176 | 338 => 177 | n => n, fun | 9 => 9 | 3 => 3 | 75 => 31 | 167 => 228 | 4 => 4 | 168 => 229 | 210 => 244 | 37 => 29 | 0 => 0 | 127 => 173 | 145 => 254 | 143 => 252 | 2 => 2 | 171 => 208 | 53 => 163 | 5 => 5 | 173 => 210 | 212 => 235 | 51 => 203 | 20 => 20 | 213 => 236 | 46 => 123 | 232 => 255 | 233 => 256 | 80 => 121 | n => n, fun | 15 => 4 | 16 => 5 | 17 => 3 | 18 => 8 | 19 => 9 | n => n⟩
theorem Tryz.laysC245 : Go.Proofs.LaysC.n245 Tryz.prog Tryz.laysC245_ren := {
 mixed := by kernel_rfl
 f129 := Tryz.func119.trans (congrArg some (by kernel_rfl))
 f171 := Tryz.func57.trans (congrArg some (by kernel_rfl))
 f205 := Tryz.func174.trans (congrArg some (by kernel_rfl))
 f243 := Tryz.func91.trans (congrArg some (by kernel_rfl))
 f245 := Tryz.func124.trans (congrArg some (by kernel_rfl))
 f246 := Tryz.func92.trans (congrArg some (by kernel_rfl))
 f279 := Tryz.func153.trans (congrArg some (by kernel_rfl))
 f280 := Tryz.func154.trans (congrArg some (by kernel_rfl))
 f281 := Tryz.func155.trans (congrArg some (by kernel_rfl))
 f282 := Tryz.func156.trans (congrArg some (by kernel_rfl))
 f283 := Tryz.func126.trans (congrArg some (by kernel_rfl))
 f284 := Tryz.func127.trans (congrArg some (by kernel_rfl))
 f285 := Tryz.func128.trans (congrArg some (by kernel_rfl))
 f286 := Tryz.func129.trans (congrArg some (by kernel_rfl))
 f316 := Tryz.func173.trans (congrArg some (by kernel_rfl))
 f317 := Tryz.func159.trans (congrArg some (by kernel_rfl))
 f318 := Tryz.func160.trans (congrArg some (by kernel_rfl))
 f319 := Tryz.func161.trans (congrArg some (by kernel_rfl))
 f320 := Tryz.func162.trans (congrArg some (by kernel_rfl))
 f337 := Tryz.func176.trans (congrArg some (by kernel_rfl))
 f338 := Tryz.func177.trans (congrArg some (by kernel_rfl))
 t0 := Tryz.underlying0
 a0 := Tryz.isAgg0
 z0 := Tryz.sizeOf0
 v0 := Tryz.zeroValue0
 t2 := Tryz.underlying2
 a2 := Tryz.isAgg2
 z2 := Tryz.sizeOf2
 v2 := Tryz.zeroValue2
 t3 := Tryz.underlying3
 a3 := Tryz.isAgg3
 z3 := Tryz.sizeOf3
 v3 := Tryz.zeroValue3
 t4 := Tryz.underlying4
 a4 := Tryz.isAgg4
 z4 := Tryz.sizeOf4
 v4 := Tryz.zeroValue4
 t5 := Tryz.underlying5
 a5 := Tryz.isAgg5
 z5 := Tryz.sizeOf5
 v5 := Tryz.zeroValue5
 t9 := Tryz.underlying9
 a9 := Tryz.isAgg9
 z9 := Tryz.sizeOf9
 v9 := Tryz.zeroValue9
 t20 := Tryz.underlying20
 a20 := Tryz.isAgg20
 z20 := Tryz.sizeOf20
 v20 := Tryz.zeroValue20
 t37 := Tryz.underlying29
 a37 := Tryz.isAgg29
 z37 := Tryz.sizeOf29
 v37 := Tryz.zeroValue29
 t46 := Tryz.underlying123
 a46 := Tryz.isAgg123
 z46 := Tryz.sizeOf123
 v46 := Tryz.zeroValue123
 t51 := Tryz.underlying203
 a51 := Tryz.isAgg203
 z51 := Tryz.sizeOf203
 v51 := Tryz.zeroValue203
 t53 := Tryz.underlying163
 a53 := Tryz.isAgg163
 z53 := Tryz.sizeOf163
 v53 := Tryz.zeroValue163
 t75 := Tryz.underlying31
 a75 := Tryz.isAgg31
 z75 := Tryz.sizeOf31
 v75 := Tryz.zeroValue31
 t127 := Tryz.underlying173
 a127 := Tryz.isAgg173
 z127 := Tryz.sizeOf173
 v127 := Tryz.zeroValue173
 t143 := Tryz.underlying252
 a143 := Tryz.isAgg252
 z143 := Tryz.sizeOf252
 v143 := Tryz.zeroValue252
 t145 := Tryz.underlying254
 a145 := Tryz.isAgg254
 z145 := Tryz.sizeOf254
 v145 := Tryz.zeroValue254
 t167 := Tryz.underlying228
 a167 := Tryz.isAgg228
 z167 := Tryz.sizeOf228
 v167 := Tryz.zeroValue228
 t168 := Tryz.underlying229
 a168 := Tryz.isAgg229
 z168 := Tryz.sizeOf229
 v168 := Tryz.zeroValue229
 t171 := Tryz.underlying208
 a171 := Tryz.isAgg208
 z171 := Tryz.sizeOf208
 v171 := Tryz.zeroValue208
 t173 := Tryz.underlying210
 a173 := Tryz.isAgg210
 z173 := Tryz.sizeOf210
 v173 := Tryz.zeroValue210
 t210 := Tryz.underlying244
 a210 := Tryz.isAgg244
 z210 := Tryz.sizeOf244
 v210 := Tryz.zeroValue244
 t212 := Tryz.underlying235
 a212 := Tryz.isAgg235
 z212 := Tryz.sizeOf235
 v212 := Tryz.zeroValue235
 t213 := Tryz.underlying236
 a213 := Tryz.isAgg236
 z213 := Tryz.sizeOf236
 t232 := Tryz.underlying255
 a232 := Tryz.isAgg255
 z232 := Tryz.sizeOf255
 v232 := Tryz.zeroValue255
 t233 := Tryz.underlying256
 a233 := Tryz.isAgg256
 z233 := Tryz.sizeOf256
 v233 := Tryz.zeroValue256
 g15 := by kernel_rfl
 g16 := by kernel_rfl
 g17 := by kernel_rfl
 g18 := by kernel_rfl
 g19 := by kernel_rfl
 t80 := Tryz.underlying121
 a80 := Tryz.isAgg121
 z80 := Tryz.sizeOf121
 v80 := Tryz.zeroValue121
 i0 := by kernel_rfl
 i2 := by kernel_rfl
 i3 := by kernel_rfl
 i4 := by kernel_rfl
 i5 := by kernel_rfl
 i9 := by kernel_rfl
 i20 := by kernel_rfl
 i37 := by kernel_rfl
 i46 := by kernel_rfl
 i51 := by kernel_rfl
 i53 := by kernel_rfl
 i75 := by kernel_rfl
 i80 := by kernel_rfl
 i127 := by kernel_rfl
 i143 := by kernel_rfl
 i145 := by kernel_rfl
 i167 := by kernel_rfl
 i168 := by kernel_rfl
 i171 := by kernel_rfl
 i173 := by kernel_rfl
 i210 := by kernel_rfl
 i212 := by kernel_rfl
 i232 := by kernel_rfl
 i233 := by kernel_rfl
 m15 := by kernel_rfl
 m16 := by kernel_rfl
 m17 := by kernel_rfl
 m18 := by kernel_rfl
 m19 := by kernel_rfl
 c0 := by kernel_rfl
 c2 := by kernel_rfl
 c3 := by kernel_rfl
 c4 := by kernel_rfl
 c5 := by kernel_rfl
 c9 := by kernel_rfl
 c20 := by kernel_rfl
 c37 := by kernel_rfl
 c46 := by kernel_rfl
 c51 := by kernel_rfl
 c53 := by kernel_rfl
 c75 := by kernel_rfl
 c80 := by kernel_rfl
 c127 := by kernel_rfl
 c143 := by kernel_rfl
 c145 := by kernel_rfl
 c167 := by kernel_rfl
 c168 := by kernel_rfl
 c171 := by kernel_rfl
 c173 := by kernel_rfl
 c210 := by kernel_rfl
 c212 := by kernel_rfl
 c213 := by kernel_rfl
 c232 := by kernel_rfl
 c233 := by kernel_rfl }
open Go.RowKit in
/-- strconv.toError, at the inner package's ErrSyntax: 'syntaxError(fn, s)' aS an error: A *NumError IN A NEW BLOCK. (LAID: no walk: one application.) -/
theorem Tryz.strconv_toError_syntax (fn s : ByteArray) (base bits : Int) (ev : Value) (w : World) (hlim : s.size ≤ 281474976710656) (hv : w.cell? ⟨4, 0, none⟩ = some ev) (hev : ev = .nilIface ∨ ∃ te pe, ev = .iface te pe) :
  Calls Tryz.prog 124 #[.string fn, .string s, .int .i64 base, .int .i64 bits, .iface 228 (.int .i64 2)] w fun e w' => ∃ N, e = .returned (.iface 229 (.pointer (some ⟨N, 0, none⟩))) ∧ w.heap.size ≤ N ∧ w'.heap[N]? = some (.cells #[.string fn, .string s, ev] 244 (0, 0)) ∧ Below w.heap.size w w' := Any.strconv_toError_syntax Tryz.laysC245 fn s base bits ev w hlim hv hev
open Go.RowKit in
/-- strconv.toError, at the inner package's ErrRange: 'rangeError(fn, s)' aS an error: A *NumError IN A NEW BLOCK. (LAID: no walk: one application.) -/
theorem Tryz.strconv_toError_range (fn s : ByteArray) (base bits : Int) (ev : Value) (w : World) (hlim : s.size ≤ 281474976710656) (hv : w.cell? ⟨5, 0, none⟩ = some ev) (hev : ev = .nilIface ∨ ∃ te pe, ev = .iface te pe) :
  Calls Tryz.prog 124 #[.string fn, .string s, .int .i64 base, .int .i64 bits, .iface 228 (.int .i64 1)] w fun e w' => ∃ N, e = .returned (.iface 229 (.pointer (some ⟨N, 0, none⟩))) ∧ w.heap.size ≤ N ∧ w'.heap[N]? = some (.cells #[.string fn, .string s, ev] 244 (0, 0)) ∧ Below w.heap.size w w' := Any.strconv_toError_range Tryz.laysC245 fn s base bits ev w hlim hv hev
def Tryz.lays144_ren : Go.Shelf.Ren := ⟨fun | 144 => 60 | 143 => 100 | 219 => 134 | 217 => 165 | 225 => 166 | 224 => 149 | 267 => 167 | 266 => 178 | 314 => 179 | n => n, fun | 9 => 9 | 4 => 4 | 3 => 3 | 5 => 5 | 46 => 123 | 146 => 241 | 51 => 203 | n => n, fun | 1 => 2 | n => n⟩
theorem Tryz.lays144 : Go.Proofs.Lays.n144 Tryz.prog Tryz.lays144_ren := {
 mixed := by kernel_rfl
 f143 := Tryz.func100.trans (congrArg some (by kernel_rfl))
 f144 := Tryz.func60.trans (congrArg some (by kernel_rfl))
 f217 := Tryz.func165.trans (congrArg some (by kernel_rfl))
 f219 := Tryz.func134.trans (congrArg some (by kernel_rfl))
 f224 := Tryz.func149.trans (congrArg some (by kernel_rfl))
 f225 := Tryz.func166.trans (congrArg some (by kernel_rfl))
 f266 := Tryz.func178.trans (congrArg some (by kernel_rfl))
 f267 := Tryz.func167.trans (congrArg some (by kernel_rfl))
 f314 := Tryz.func179.trans (congrArg some (by kernel_rfl))
 t3 := Tryz.underlying3
 a3 := Tryz.isAgg3
 z3 := Tryz.sizeOf3
 v3 := Tryz.zeroValue3
 t4 := Tryz.underlying4
 a4 := Tryz.isAgg4
 z4 := Tryz.sizeOf4
 v4 := Tryz.zeroValue4
 t5 := Tryz.underlying5
 a5 := Tryz.isAgg5
 z5 := Tryz.sizeOf5
 v5 := Tryz.zeroValue5
 t9 := Tryz.underlying9
 a9 := Tryz.isAgg9
 z9 := Tryz.sizeOf9
 v9 := Tryz.zeroValue9
 t46 := Tryz.underlying123
 a46 := Tryz.isAgg123
 z46 := Tryz.sizeOf123
 v46 := Tryz.zeroValue123
 t51 := Tryz.underlying203
 a51 := Tryz.isAgg203
 z51 := Tryz.sizeOf203
 v51 := Tryz.zeroValue203
 t146 := Tryz.underlying241
 a146 := Tryz.isAgg241
 z146 := Tryz.sizeOf241
 v146 := Tryz.zeroValue241
 g1 := by kernel_rfl }
open Go.RowKit Go.Lib in
/-- strings.Contains: "Contains reports whether substr is within s.": AT A substr OF ONE BYTE c: IT RETURNS 'decide (0 ≤ Lib.indexByte s c)'; the world is aS it was. (LAID: no walk: one application.) -/
theorem Tryz.strings_Contains_one (s : ByteArray) (c : UInt8) (w : World) :
  Calls Tryz.prog 60 #[.string s, .string ⟨#[c]⟩] w fun e w' => e = .returned (.bool (decide (0 ≤ Lib.indexByte s.data.toList c))) ∧ w' = w := Any.strings_Contains_one Tryz.lays144 s c w
def Tryz.lays145_ren : Go.Shelf.Ren := ⟨fun | 145 => 109 | 220 => 139 | 219 => 134 | 217 => 165 | 225 => 166 | 224 => 149 | 267 => 167 | 266 => 178 | 314 => 179 | n => n, fun | 9 => 9 | 4 => 4 | 59 => 146 | 3 => 3 | 5 => 5 | 46 => 123 | 146 => 241 | 51 => 203 | n => n, fun | 1 => 2 | n => n⟩
theorem Tryz.lays145 : Go.Proofs.Lays.n145 Tryz.prog Tryz.lays145_ren := {
 mixed := by kernel_rfl
 f145 := Tryz.func109.trans (congrArg some (by kernel_rfl))
 f217 := Tryz.func165.trans (congrArg some (by kernel_rfl))
 f219 := Tryz.func134.trans (congrArg some (by kernel_rfl))
 f220 := Tryz.func139.trans (congrArg some (by kernel_rfl))
 f224 := Tryz.func149.trans (congrArg some (by kernel_rfl))
 f225 := Tryz.func166.trans (congrArg some (by kernel_rfl))
 f266 := Tryz.func178.trans (congrArg some (by kernel_rfl))
 f267 := Tryz.func167.trans (congrArg some (by kernel_rfl))
 f314 := Tryz.func179.trans (congrArg some (by kernel_rfl))
 t3 := Tryz.underlying3
 a3 := Tryz.isAgg3
 z3 := Tryz.sizeOf3
 v3 := Tryz.zeroValue3
 t4 := Tryz.underlying4
 a4 := Tryz.isAgg4
 z4 := Tryz.sizeOf4
 v4 := Tryz.zeroValue4
 t5 := Tryz.underlying5
 a5 := Tryz.isAgg5
 z5 := Tryz.sizeOf5
 v5 := Tryz.zeroValue5
 t9 := Tryz.underlying9
 a9 := Tryz.isAgg9
 z9 := Tryz.sizeOf9
 v9 := Tryz.zeroValue9
 t46 := Tryz.underlying123
 a46 := Tryz.isAgg123
 z46 := Tryz.sizeOf123
 v46 := Tryz.zeroValue123
 t51 := Tryz.underlying203
 a51 := Tryz.isAgg203
 z51 := Tryz.sizeOf203
 v51 := Tryz.zeroValue203
 t59 := Tryz.underlying146
 a59 := Tryz.isAgg146
 z59 := Tryz.sizeOf146
 v59 := Tryz.zeroValue146
 t146 := Tryz.underlying241
 a146 := Tryz.isAgg241
 z146 := Tryz.sizeOf241
 v146 := Tryz.zeroValue241
 g1 := by kernel_rfl }
open Go.RowKit Go.Lib in
/-- strings.Cut: "Cut slices s around the first instance of sep, returning the text before and after sep. The found result reports whether sep appears in s. If sep does not appear in s, cut returns s, "", false.": IT RETURNS 'Lib.cut s sep'; the world is aS it was but for the count of draws. (LAID: no walk: one application.) -/
theorem Tryz.strings_Cut (s sep : ByteArray) (m : Int) (w : World) (hs : s.size < 4294967281) (hm : w.cell? ⟨2, 0, none⟩ = some (.int .i64 m)) :
  Calls Tryz.prog 109 #[.string s, .string sep] w fun e w' => e = .returned (.tuple #[.string ⟨(Lib.cut s.data.toList sep.data.toList).1.toArray⟩, .string ⟨(Lib.cut s.data.toList sep.data.toList).2.1.toArray⟩, .bool (Lib.cut s.data.toList sep.data.toList).2.2]) ∧ ∃ n, w' = w.drewN n := Any.strings_Cut Tryz.lays145 s sep m w hs hm
def Tryz.lays152_ren : Go.Shelf.Ren := ⟨fun | 152 => 157 | 137 => 136 | 119 => 175 | 224 => 149 | 225 => 166 | 217 => 165 | 266 => 178 | n => n, fun | 9 => 9 | 21 => 21 | 3 => 3 | 4 => 4 | 5 => 5 | 0 => 0 | 46 => 123 | n => n, fun | n => n⟩
theorem Tryz.lays152 : Go.Proofs.Lays.n152 Tryz.prog Tryz.lays152_ren := {
 mixed := by kernel_rfl
 f119 := Tryz.func175.trans (congrArg some (by kernel_rfl))
 f137 := Tryz.func136.trans (congrArg some (by kernel_rfl))
 f152 := Tryz.func157.trans (congrArg some (by kernel_rfl))
 f217 := Tryz.func165.trans (congrArg some (by kernel_rfl))
 f224 := Tryz.func149.trans (congrArg some (by kernel_rfl))
 f225 := Tryz.func166.trans (congrArg some (by kernel_rfl))
 f266 := Tryz.func178.trans (congrArg some (by kernel_rfl))
 t0 := Tryz.underlying0
 a0 := Tryz.isAgg0
 z0 := Tryz.sizeOf0
 v0 := Tryz.zeroValue0
 t3 := Tryz.underlying3
 a3 := Tryz.isAgg3
 z3 := Tryz.sizeOf3
 v3 := Tryz.zeroValue3
 t4 := Tryz.underlying4
 a4 := Tryz.isAgg4
 z4 := Tryz.sizeOf4
 v4 := Tryz.zeroValue4
 t5 := Tryz.underlying5
 a5 := Tryz.isAgg5
 z5 := Tryz.sizeOf5
 v5 := Tryz.zeroValue5
 t9 := Tryz.underlying9
 a9 := Tryz.isAgg9
 z9 := Tryz.sizeOf9
 v9 := Tryz.zeroValue9
 t21 := Tryz.underlying21
 a21 := Tryz.isAgg21
 z21 := Tryz.sizeOf21
 v21 := Tryz.zeroValue21
 t46 := Tryz.underlying123
 a46 := Tryz.isAgg123
 z46 := Tryz.sizeOf123
 v46 := Tryz.zeroValue123 }
open Go.RowKit Go.Lib in
theorem Tryz.strings_IndexRune_ascii (s : ByteArray) (r : Int) (w : World) (h0 : 0 ≤ r) (h1 : r < 128) :
  Calls Tryz.prog 157 #[.string s, .int .i32 r] w fun e w' => e = .returned (.int .i64 (Lib.indexByte s.data.toList r.toNat.toUInt8)) ∧ w' = w := Any.strings_IndexRune_ascii Tryz.lays152 s r w h0 h1
def Tryz.lays153_ren : Go.Shelf.Ren := ⟨fun | 153 => 125 | 152 => 157 | 226 => 158 | 227 => 95 | 228 => 130 | 137 => 136 | 119 => 175 | 224 => 149 | 225 => 166 | 217 => 165 | 266 => 178 | n => n, fun | 9 => 9 | 3 => 3 | 4 => 4 | 5 => 5 | 21 => 21 | 117 => 169 | 116 => 168 | 0 => 0 | 46 => 123 | 124 => 172 | n => n, fun | n => n⟩
theorem Tryz.lays153 : Go.Proofs.Lays.n153 Tryz.prog Tryz.lays153_ren := {
 mixed := by kernel_rfl
 f119 := Tryz.func175.trans (congrArg some (by kernel_rfl))
 f137 := Tryz.func136.trans (congrArg some (by kernel_rfl))
 f152 := Tryz.func157.trans (congrArg some (by kernel_rfl))
 f153 := Tryz.func125.trans (congrArg some (by kernel_rfl))
 f217 := Tryz.func165.trans (congrArg some (by kernel_rfl))
 f224 := Tryz.func149.trans (congrArg some (by kernel_rfl))
 f225 := Tryz.func166.trans (congrArg some (by kernel_rfl))
 f226 := Tryz.func158.trans (congrArg some (by kernel_rfl))
 f227 := Tryz.func95.trans (congrArg some (by kernel_rfl))
 f228 := Tryz.func130.trans (congrArg some (by kernel_rfl))
 f266 := Tryz.func178.trans (congrArg some (by kernel_rfl))
 t0 := Tryz.underlying0
 a0 := Tryz.isAgg0
 z0 := Tryz.sizeOf0
 v0 := Tryz.zeroValue0
 t3 := Tryz.underlying3
 a3 := Tryz.isAgg3
 z3 := Tryz.sizeOf3
 v3 := Tryz.zeroValue3
 t4 := Tryz.underlying4
 a4 := Tryz.isAgg4
 z4 := Tryz.sizeOf4
 v4 := Tryz.zeroValue4
 t5 := Tryz.underlying5
 a5 := Tryz.isAgg5
 z5 := Tryz.sizeOf5
 v5 := Tryz.zeroValue5
 t9 := Tryz.underlying9
 a9 := Tryz.isAgg9
 z9 := Tryz.sizeOf9
 v9 := Tryz.zeroValue9
 t21 := Tryz.underlying21
 a21 := Tryz.isAgg21
 z21 := Tryz.sizeOf21
 v21 := Tryz.zeroValue21
 t46 := Tryz.underlying123
 a46 := Tryz.isAgg123
 z46 := Tryz.sizeOf123
 v46 := Tryz.zeroValue123
 t116 := Tryz.underlying168
 a116 := Tryz.isAgg168
 z116 := Tryz.sizeOf168
 t117 := Tryz.underlying169
 a117 := Tryz.isAgg169
 z117 := Tryz.sizeOf169
 v117 := Tryz.zeroValue169
 t124 := Tryz.underlying172
 a124 := Tryz.isAgg172
 z124 := Tryz.sizeOf172
 v124 := Tryz.zeroValue172 }
open Go.RowKit Go.Lib in
theorem Tryz.strings_IndexAny_long (hv116 : ∀ w, (zeroValue 168).run Tryz.prog w = .ok (.agg (Array.replicate 256 (.bool false))) w) (s chars : ByteArray) (w : World) (h2 : 2 ≤ chars.size) (h8 : 8 < s.size) (hs : s.size < 4294967281) (hcs : chars.size < 4294967281) (hascii : ∀ (j : Nat) b, chars.data.toList[j]? = some b → b.toNat < 128) :
  Calls Tryz.prog 125 #[.string s, .string chars] w fun e w' => e = .returned (.int .i64 (Lib.indexAny s.data.toList chars.data.toList)) ∧ w' = ((w.alloc (.cells (Lib.setCells chars.data.toList) 168)).alloc (.cells (Lib.setCells chars.data.toList) 168)) := Any.strings_IndexAny_long Tryz.lays153 hv116 (by kernel_rfl) s chars w h2 h8 hs hcs hascii
end Go.Proofs


namespace Go.Proofs.YtliaddbbmnfioaaGreatDoor
open Go.RowKit
variable [AFG]
set_option linter.unusedSectionVars false
set_option linter.unusedVariables false
set_option linter.unusedSimpArgs false

/-- A call on plain values that leaves all aS it was. -/
theorem AFE.ofSame {f : FuncId} {args : List Value} {r : Value} (h : ∀ (F : Nat → Prop) w, AJB F w → Calls Tryz.prog f args.toArray w fun e w' => e = .returned r ∧ w' = w) : AFE Tryz.prog f (args.map .val) (fun x => x = .val r) := by
 intro β F w vs hF hv
 have hvs : vs = args := by
  clear h hF
  induction args generalizing vs with
  | nil => rw [List.map_nil, AF9.nil] at hv; exact hv
  | cons a args ih =>
   rw [List.map_cons] at hv
   obtain ⟨v, us, rfl, h1, h2⟩ := AF9.cons.1 hv
   have := Rep.val.1 (Or.inl h1 : Rep _ _ _ _)
   rw [this, ih us h2]
 subst hvs
 refine (h F w hF.2).mono ?_
 rintro e w' ⟨rfl, rfl⟩
 exact ⟨_, _, F, rfl, rfl, Rep.of_val, ⟨rfl, rfl, rfl, Nat.le_refl _, fun _ _ => rfl, fun _ h => h, fun _ _ h => h, hF.1⟩⟩
theorem Blf (i : Nat) (hi : i < 100) : AFE Tryz.prog 126 [i64 (i : Int)] (fun x => x = ts (Lib.decDigits i)) :=
 AFE.ofSame (f := 126) (args := [.int .i64 (i : Int)]) (r := .string (str (Lib.decDigits i))) fun F w _ => Tryz.internal_strconv_small i hi w
variable [AFg]
theorem Be8 {F : Nat → Prop} {w : World} (h : AJB F w) : Lib.TabIs Tryz.prog w "internal/strconv.uint64pow10" .u64 Lib.pow10Tab := by
 obtain ⟨_, t, fr, h1⟩ := h 3 _ AFg.k
 have h2 : Tryz.prog.globalNamed "internal/strconv.uint64pow10" = some 3 := by kernel_rfl
 have h3 : AFt.cells.toArray = (Lib.pow10Tab.map fun z => Value.int .u64 z).toArray := by kernel_rfl
 unfold Lib.TabIs World.var?
 rw [h2, Option.bind_some, h1, h3]
theorem A9z (u : Nat) (h1 : 1 ≤ u) (h2 : u < 18446744073709551616) : AFE Tryz.prog 127 [.val (.int .u64 (u : Int))] (fun x => x = i64 (Lib.nDigits u : Int)) :=
 AFE.ofSame (f := 127) (args := [.int .u64 (u : Int)]) (r := .int .i64 (Lib.nDigits u : Int)) fun F w hg => Tryz.internal_strconv_numDigits u h1 h2 w (Be8 hg)
theorem Bfb (u : Nat) : (Lib.decDigits u).length = Lib.nDigits u := by rw [← BaV, A7Q]
theorem BaC {n : Nat} (h : n ≤ 24) : (List.replicate 24 (TV.val (.int .u8 ((0 : Nat) : Int)))) = ((List.replicate n (0 : UInt8)).map by8) ++ List.replicate (24 - n) (.val (.int .u8 ((0 : Nat) : Int))) := by
 have e : (TV.val (.int .u8 ((0 : Nat) : Int))) = by8 0 := rfl
 rw [e, List.map_replicate, List.replicate_append_replicate, show n + (24 - n) = 24 by omega]
/-- FormatUint at base 10. -/
theorem A62 (u : Nat) (hu : u < 18446744073709551616) : AFE Tryz.prog 180 [.val (.int .u64 (u : Int)), i64 ((10 : Nat) : Int)] (fun x => x = ts (Lib.decDigits u)) := by
 refine AFk.toPureV (AMZ (by simp) ?_)
 have hw : u ≤ 9223372036854775807 → IntKind.i64.wrap (u : Int) = (u : Int) := fun h => AGD (by omega) (by omega)
 by_cases c : u < 100
 ·have hw := hw (by omega)
  simp -dsimp (disch := first | assumption | omega | (simp only [AE8]; done) | (simp only [AE8]; omega)) only [↓AFe, AFa, AFc, AFd, eq_self, Nat.reduceEqDiff, ↓reduceIte, Nat.reduceAdd, reduceCtorEq, ↓AGn, hw]
  refine (Blf u c).calls rfl fun r hr => ?_
  subst hr
  simp -dsimp (disch := first | assumption | omega | (simp only [AE8]; done) | (simp only [AE8]; omega)) only [↓AFe, AFa, AFc, AFd, eq_self, ↓reduceIte, ↓AGn]
 ·have hn := Lib.nDigits_le20 u hu
  have hp := Lib.nDigits_pos u
  have hlt := A9w u
  have hz := BaC (n := Lib.nDigits u) (by omega)
  simp only [List.replicate] at hz
  simp -dsimp (disch := first | assumption | omega | (simp only [AE8]; done) | (simp only [AE8]; omega)) only [↓AFe, AFa, AFc, AFd, eq_self, Nat.reduceEqDiff, ↓reduceIte, Nat.reduceAdd, reduceCtorEq, ↓AGn]
  refine (A9z u (by omega) hu).calls rfl fun r hr => ?_
  subst hr
  simp -dsimp (disch := first | assumption | omega | (simp only [AE8]; done) | (simp only [AE8]; omega)) only [↓AFe, AFa, AFc, AFd, eq_self, Nat.reduceEqDiff, ↓reduceIte, reduceCtorEq, Nat.reduceLeDiff]
  rw [hz]
  refine AZW (Bot hlt hp (by omega) hu (by simp) rfl ?_)
  have hdl : (dgs (Lib.nDigits u) u).length = Lib.nDigits u := A7Q _ _
  have htk : ∀ R : List TV, ((dgs (Lib.nDigits u) u).map by8 ++ R).take (Lib.nDigits u) = (dgs (Lib.nDigits u) u).map by8 := fun R => List.take_left' (by simp [hdl])
  have hall : ∀ y ∈ (dgs (Lib.nDigits u) u).map by8, A7a y := fun y hy => by obtain ⟨b, _, rfl⟩ := List.mem_map.1 hy; exact AYN b
  have hda := BaV u
  simp -dsimp (disch := first | assumption | omega | (simp only [AE8]; done) | (simp only [AE8]; omega)) only [↓AFe, AFa, AFc, AFd, eq_self, Nat.reduceEqDiff, ↓reduceIte, reduceCtorEq, Nat.reduceLeDiff, ↓AGn, htk, hdl]
  rw [hda]
theorem A7u (u : Nat) (hu : u < 18446744073709551616) : AFE Tryz.prog 168 [.val (.int .u64 (u : Int)), i64 ((10 : Nat) : Int)] (fun x => x = ts (Lib.decDigits u)) := by
 refine AFk.toPureV (AVn (by simp) ?_)
 simp -dsimp (disch := first | assumption | omega | (simp only [AE8]; done) | (simp only [AE8]; omega)) only [↓AFe, AFa, AFc, AFd, eq_self, Nat.reduceEqDiff, ↓reduceIte, Nat.reduceAdd, reduceCtorEq, ↓ANP]
 refine (A62 u hu).calls rfl fun r hr => ?_
 subst hr
 simp -dsimp (disch := first | assumption | omega | (simp only [AE8]; done) | (simp only [AE8]; omega)) only [↓AFe, AFa, AFc, AFd, eq_self, ↓reduceIte, ↓ANP]
end Go.Proofs.YtliaddbbmnfioaaGreatDoor


namespace Go.Proofs.YtliaddbbmnfioaaGreatDoor
variable [AFG]
set_option linter.unusedSectionVars false
set_option linter.unusedVariables false
set_option linter.defProp false
set_option maxRecDepth 100000

def ANG : AFb := .seq (.seq (.ops [mv_ 4 0,
  po_ 5 (.bin 24 .lss (.t 4) (ci_ 1)),
  mv_ 6 5,
  ⟨some 7, .p (.mov (.t 0)), some ⟨6, false⟩⟩,
  ⟨some 8, .p (.bin 24 .gtr (.t 7) (ci_ 4)), some ⟨6, false⟩⟩,
  po_ 9 (.pick (.t 6) (.c (.bool true)) (.t 8))] [0, 9])
 (.cond (.t 9)
 (.seq (.ops [po_ 2 (.mov (.c (.string (str [])))),
   po_ 3 (.mov (.c (.bool false)))] [2, 3])
  (.ret))
 (.skip)))
 (.seq (.ops [mv_ 10 0,
  po_ 11 (.idxAA 5 1 (.g 0) (.t 10)),
  po_ 12 (.load false 1 (.t 11)),
  mv_ 2 12,
  po_ 3 (.mov (.c (.bool true)))] [2, 3])
 (.ret))
def ARz : AFb := .seq (.ops [po_ 2 (.mov (.c (.string (str [])))),
  po_ 3 (.mov (.c (.bool false)))] [0])
 ANG
def AQ1 : List VR := [.tmp 2, .tmp 3]
theorem A0B : Tryz.f25.body.bind (trC Tryz.prog Tryz.f25.ntmps) = some (er ARz) := by kernel_rfl
theorem AZU : trR Tryz.prog Tryz.f25.results.toList = some AQ1 := by kernel_rfl
def AT1 := AE7 ANG.eq_1
def AXE := AE7 ARz.eq_1
theorem AXI {K : TV → Prop} {e : Env} {H : List Ob} : res AQ1 e H K = res [.tmp 2, .tmp 3] e H K := AE9 rfl
def AMd := (And.intro (And.intro @AT1 @AXE) @AXI)
def AZz := AGG 13 Tryz.func25 A0B AZU rfl

def APj : AFb := .seq (.block 1 (.seq (.ops [mv_ 9 7,
  po_ 10 (.idx false 5 1 (.t 6) (.t 7)),
  mv_ 4 9,
  mv_ 5 10] [0, 4, 5, 6, 7])
 (.seq (.ops [mv_ 11 5,
  mv_ 12 0,
  po_ 13 (.bin 9 .eql (.t 11) (.t 12)),
  mv_ 14 13,
  ⟨some 15, .p (.mov (.t 0)), some ⟨14, true⟩⟩,
  ⟨some 16, .p (.bin 9 .neq (.t 15) (.c (.string (str [])))), some ⟨14, true⟩⟩,
  po_ 17 (.pick (.t 14) (.t 16) (.c (.bool false)))] [0, 4, 6, 7, 17])
 (.cond (.t 17)
 (.seq (.ops [mv_ 18 4,
   mv_ 2 18,
   po_ 3 (.mov (.c (.bool true)))] [2, 3])
  (.ret))
 (.skip)))))
 (.ops [po_ 19 (.bin 3 .add (.t 7) (ci_ 1)),
  mv_ 7 19] [0, 6, 7])
def APs : AFb := .seq (.cond (.t 8)
 (.skip)
 (.exit 0))
 APj
def APa : AFb := .seq (.ops [po_ 8 (.bin 3 .lss (.t 7) (ci_ 5))] [0, 6, 7, 8])
 APs
def APL : AFb := .block 0 (.loop [0, 6, 7] APa)
def APg : AFb := .seq (.ops [po_ 2 (.mov (ci_ 0)),
  po_ 3 (.mov (.c (.bool false)))] [2, 3])
 (.ret)
def APy : AFb := .seq (.seq (.ops [po_ 6 (.load true 5 (.g 0)),
  po_ 7 (.mov (ci_ 0))] [0, 6, 7])
 APL)
 APg
def AVf : AFb := .seq (.ops [po_ 2 (.mov (ci_ 0)),
  po_ 3 (.mov (.c (.bool false)))] [0])
 APy
def AVb : List VR := [.tmp 2, .tmp 3]
theorem A2k : Tryz.f73.body.bind (trC Tryz.prog Tryz.f73.ntmps) = some (er AVf) := by kernel_rfl
theorem A2f : trR Tryz.prog Tryz.f73.results.toList = some AVb := by kernel_rfl
def AVT := AE7 APj.eq_1
def AVQ := AE7 APs.eq_1
def AVV := AE7 APa.eq_1
def AWi := AE7 APL.eq_1
def AWk := AE7 APg.eq_1
def AVS := AE7 APy.eq_1
def A0s := AE7 AVf.eq_1
theorem AZK {K : TV → Prop} {e : Env} {H : List Ob} : res AVb e H K = res [.tmp 2, .tmp 3] e H K := AE9 rfl
def AF5 := (And.intro (And.intro (And.intro @AVT @AVQ) (And.intro @AVV @AWi)) (And.intro (And.intro @AWk @AVS) (And.intro @A0s @AZK)))
def A1O := AGG 20 Tryz.func73 A2k A2f rfl

def AOE : AFb := .seq (.ops [mv_ 7 0,
  so_ 8 (.call 89 [.t 7, .c (.int .i64 ((10 : Nat) : Int)), .c (.int .i64 ((62 : Nat) : Int))]),
  mv_ 6 8,
  po_ 9 (.ext 0 (.t 6)),
  po_ 10 (.ext 1 (.t 6)),
  mv_ 4 9,
  mv_ 5 10] [0, 4, 5])
 (.seq (.ops [mv_ 11 4,
  po_ 12 (.conv .i64 (.t 11)),
  mv_ 13 5,
  po_ 14 (.eqN 1 (.t 13) (.c .nilIface) false),
  mv_ 15 14,
  ⟨some 16, .p (.mov (.t 4)), some ⟨15, true⟩⟩,
  ⟨some 17, .s (.call 168 [.t 16, .c (.int .i64 ((10 : Nat) : Int))]), some ⟨15, true⟩⟩,
  ⟨some 18, .p (.mov (.t 0)), some ⟨15, true⟩⟩,
  ⟨some 19, .p (.bin 9 .eql (.t 17) (.t 18)), some ⟨15, true⟩⟩,
  po_ 20 (.pick (.t 15) (.t 19) (.c (.bool false))),
  mv_ 2 12,
  mv_ 3 20] [2, 3])
 (.ret))
def ATp : AFb := .seq (.ops [po_ 2 (.mov (ci_ 0)),
  po_ 3 (.mov (.c (.bool false)))] [0])
 AOE
def ATK : List VR := [.tmp 2, .tmp 3]
theorem A1I : Tryz.f137.body.bind (trC Tryz.prog Tryz.f137.ntmps) = some (er ATp) := by kernel_rfl
theorem A1l : trR Tryz.prog Tryz.f137.results.toList = some ATK := by kernel_rfl
def AVj := AE7 AOE.eq_1
def AYU := AE7 ATp.eq_1
theorem AZA {K : TV → Prop} {e : Env} {H : List Ob} : res ATK e H K = res [.tmp 2, .tmp 3] e H K := AE9 rfl
def ANk := (And.intro (And.intro @AVj @AYU) @AZA)
def AZR := AGG 21 Tryz.func137 A1I A1l rfl


def AWC : AFb := .seq (.ops [po_ 7 (.bin 3 .eql (.t 3) (ci_ 2)),
  mv_ 6 7] [3, 6])
 (.cond (.t 6)
 (.seq (.ops [po_ 2 (.mov (.c (.string (str [116, 114, 101, 101]))))] [2])
  (.ret))
 (.seq (.ops [po_ 9 (.bin 3 .eql (.t 3) (ci_ 3)),
   mv_ 8 9] [3, 8])
  (.cond (.t 8)
  (.seq (.ops [po_ 2 (.mov (.c (.string (str [98, 108, 111, 98]))))] [2])
   (.ret))
  (.seq (.ops [po_ 11 (.bin 3 .eql (.t 3) (ci_ 4)),
    mv_ 10 11] [10])
   (.cond (.t 10)
   (.seq (.ops [po_ 2 (.mov (.c (.string (str [116, 97, 103]))))] [2])
    (.ret))
   (.skip))))))
def AWX : AFb := .seq (.seq (.ops [mv_ 3 0] [3])
 (.block 0 (.seq (.ops [po_ 5 (.bin 3 .eql (.t 3) (ci_ 1)),
  mv_ 4 5] [3, 4])
 (.cond (.t 4)
 (.seq (.ops [po_ 2 (.mov (.c (.string (str [99, 111, 109, 109, 105, 116]))))] [2])
  (.ret))
 AWC))))
 (.seq (.ops [po_ 2 (.mov (.c (.string (str []))))] [2])
 (.ret))
def A2Z : AFb := .seq (.ops [po_ 2 (.mov (.c (.string (str []))))] [0])
 AWX
def A2J : List VR := [.tmp 2]
theorem A74 : Tryz.f35.body.bind (trC Tryz.prog Tryz.f35.ntmps) = some (er A2Z) := by kernel_rfl
theorem A63 : trR Tryz.prog Tryz.f35.results.toList = some A2J := by kernel_rfl
def A1R := AE7 AWC.eq_1
def A1m := AE7 AWX.eq_1
def A4W := AE7 A2Z.eq_1
theorem A46 {K : TV → Prop} {e : Env} {H : List Ob} : res A2J e H K = res [.tmp 2] e H K := AE9 rfl
def AOK := (And.intro (And.intro @A1R @A1m) (And.intro @A4W @A46))
def A5U := AGG 12 Tryz.func35 A74 A63 rfl



def ATr : AFb := .seq (.ops [mv_ 76 0,
  mv_ 77 8,
  po_ 78 (.bin 3 .add (.t 77) (ci_ 1)),
  mv_ 79 9,
  po_ 80 (.slV 1 (.t 76) (some (.t 78)) (some (.t 79))),
  mv_ 81 6,
  so_ 82 (.call 146 [.t 80, .t 81]),
  mv_ 11 82] [0, 1, 5, 6, 7, 8, 9, 10, 11, 12])
 (.seq (.seq (.ops [mv_ 83 11,
  po_ 84 (.bin 3 .lss (.t 83) (ci_ 0))] [0, 1, 5, 6, 7, 8, 9, 10, 11, 12, 84])
 (.cond (.t 84)
 (.seq (.ops [po_ 4 (.mov (.c (.int .i64 (-1))))] [4])
  (.ret))
 (.skip)))
 (.ops [mv_ 85 8,
  mv_ 86 11,
  po_ 87 (.bin 3 .add (.t 86) (ci_ 1)),
  po_ 88 (.bin 3 .add (.t 85) (.t 87)),
  mv_ 8 88] [0, 1, 5, 6, 7, 8, 9, 10, 12]))
def ATq : AFb := .cond (.t 75)
 ATr
 (.skip)
def ATx : AFb := .seq (.dead)
 (.seq (.seq (.ops [mv_ 120 12,
  po_ 121 (.bin 3 .geq (.t 120) (ci_ 0))] [8, 12, 121])
 (.cond (.t 121)
 (.seq (.ops [mv_ 122 12,
   mv_ 123 8,
   po_ 124 (.bin 3 .add (.t 122) (.t 123)),
   mv_ 4 124] [4])
  (.ret))
 (.skip)))
 (.seq (.ops [po_ 4 (.mov (.c (.int .i64 (-1))))] [4])
 (.ret)))
def ATu : AFb := .seq (.ops [mv_ 109 8,
  po_ 110 (.bin 3 .add (.t 109) (ci_ 1)),
  mv_ 8 110] [0, 1, 5, 6, 7, 8, 9, 10, 12])
 (.seq (.ops [mv_ 111 10,
  mv_ 112 8,
  so_ 113 (.call 149 [.t 112]),
  po_ 114 (.bin 3 .gtr (.t 111) (.t 113))] [0, 1, 5, 6, 7, 8, 9, 10, 12, 114])
 (.cond (.t 114)
 ATx
 (.skip)))
def ATF : AFb := .seq (.ops [mv_ 107 10,
  po_ 108 (.bin 3 .add (.t 107) (ci_ 1)),
  mv_ 10 108] [0, 1, 5, 6, 7, 8, 9, 10, 12])
 ATu
def ATP : AFb := .seq (.seq (.ops [mv_ 89 0,
  mv_ 90 8,
  po_ 91 (.bin 3 .add (.t 90) (ci_ 1)),
  po_ 92 (.idxA 1 (.t 89) (.t 91)),
  po_ 93 (.load false 1 (.t 92)),
  mv_ 94 7,
  po_ 95 (.bin 5 .eql (.t 93) (.t 94)),
  mv_ 96 95,
  ⟨some 97, .p (.mov (.t 0)), some ⟨96, true⟩⟩,
  ⟨some 98, .p (.mov (.t 8)), some ⟨96, true⟩⟩,
  ⟨some 99, .p (.mov (.t 8)), some ⟨96, true⟩⟩,
  ⟨some 100, .p (.mov (.t 5)), some ⟨96, true⟩⟩,
  ⟨some 101, .p (.bin 3 .add (.t 99) (.t 100)), some ⟨96, true⟩⟩,
  ⟨some 102, .p (.slV 1 (.t 97) (some (.t 98)) (some (.t 101))), some ⟨96, true⟩⟩,
  ⟨some 103, .p (.mov (.t 1)), some ⟨96, true⟩⟩,
  ⟨some 104, .s (.call 147 [.t 102, .t 103]), some ⟨96, true⟩⟩,
  po_ 105 (.pick (.t 96) (.t 104) (.c (.bool false)))] [0, 1, 5, 6, 7, 8, 9, 10, 12, 105])
 (.cond (.t 105)
 (.seq (.ops [mv_ 106 8,
   mv_ 4 106] [4])
  (.ret))
 (.skip)))
 ATF
def ATQ : AFb := .block 2 (.seq (.seq (.ops [mv_ 70 0,
  mv_ 71 8,
  po_ 72 (.idxA 1 (.t 70) (.t 71)),
  po_ 73 (.load false 1 (.t 72)),
  mv_ 74 6,
  po_ 75 (.bin 5 .neq (.t 73) (.t 74))] [0, 1, 5, 6, 7, 8, 9, 10, 12, 75])
 ATq)
 ATP)
def ATL : AFb := .seq (.seq (.ops [mv_ 67 8,
  mv_ 68 9,
  po_ 69 (.bin 3 .lss (.t 67) (.t 68))] [0, 1, 5, 6, 7, 8, 9, 10, 12, 69])
 (.cond (.t 69)
 (.skip)
 (.exit 1)))
 ATQ
def ATI : AFb := .seq (.ops [po_ 4 (.mov (.c (.int .i64 (-1))))] [4])
 (.ret)
def AQI : AFb := .seq (.block 1 (.loop [0, 1, 5, 6, 7, 8, 9, 10, 12] ATL))
 ATI
def AR4 : AFb := .seq (.ops [po_ 10 (.mov (ci_ 0))] [0, 1, 5, 6, 7, 8, 9, 10, 12])
 AQI
def AQN : AFb := .seq (.ops [mv_ 62 0,
  po_ 63 (.lenV (.t 62)),
  mv_ 64 5,
  po_ 65 (.bin 3 .sub (.t 63) (.t 64)),
  po_ 66 (.bin 3 .add (.t 65) (ci_ 1)),
  mv_ 9 66] [0, 1, 5, 6, 7, 8, 9, 12])
 AR4
def AQV : AFb := .seq (.ops [po_ 8 (.mov (ci_ 0))] [0, 1, 5, 6, 7, 8, 12])
 AQN
def ARL : AFb := .seq (.ops [mv_ 59 1,
  po_ 60 (.idxA 1 (.t 59) (ci_ 1)),
  po_ 61 (.load false 1 (.t 60)),
  mv_ 7 61] [0, 1, 5, 6, 7, 12])
 AQV
def ARZ : AFb := .seq (.ops [mv_ 56 1,
  po_ 57 (.idxA 1 (.t 56) (ci_ 0)),
  po_ 58 (.load false 1 (.t 57)),
  mv_ 6 58] [0, 1, 5, 6, 12])
 ARL
def ARR : AFb := .seq (.seq (.ops [mv_ 50 0,
  po_ 51 (.lenV (.t 50)),
  po_ 52 (.bin 3 .leq (.t 51) (ci_ 64))] [0, 1, 4, 5, 12, 52])
 (.cond (.t 52)
 (.seq (.dead)
  (.ret))
 (.skip)))
 ARZ
def ASB : AFb := .cond (.t 46)
 ARR
 (.skip)
def ASa : AFb := .seq (.ops [mv_ 47 5,
  po_ 48 (.load false 1 (.g 2)),
  po_ 49 (.bin 3 .leq (.t 47) (.t 48)),
  mv_ 46 49] [0, 1, 4, 5, 12, 46])
 ASB
def ARU : AFb := .cond (.t 41)
 (.seq (.ops [po_ 4 (.mov (.c (.int .i64 (-1))))] [4])
  (.ret))
 ASa
def AQJ : AFb := .seq (.ops [mv_ 42 5,
  mv_ 43 0,
  po_ 44 (.lenV (.t 43)),
  po_ 45 (.bin 3 .gtr (.t 42) (.t 44)),
  mv_ 41 45] [0, 1, 4, 5, 12, 41])
 ARU
def ASv : AFb := .cond (.t 33)
 (.seq (.seq (.ops [mv_ 38 1,
   mv_ 39 0,
   so_ 40 (.call 147 [.t 38, .t 39])] [40])
  (.cond (.t 40)
  (.seq (.ops [po_ 4 (.mov (ci_ 0))] [4])
   (.ret))
  (.skip)))
  (.seq (.ops [po_ 4 (.mov (.c (.int .i64 (-1))))] [4])
  (.ret)))
 AQJ
def AR9 : AFb := .seq (.ops [mv_ 34 5,
  mv_ 35 0,
  po_ 36 (.lenV (.t 35)),
  po_ 37 (.bin 3 .eql (.t 34) (.t 36)),
  mv_ 33 37] [0, 1, 4, 5, 12, 33])
 ASv
def ARl : AFb := .cond (.t 25)
 (.seq (.ops [mv_ 28 0,
   mv_ 29 1,
   po_ 30 (.idxA 1 (.t 29) (ci_ 0)),
   po_ 31 (.load false 1 (.t 30)),
   so_ 32 (.call 146 [.t 28, .t 31]),
   mv_ 4 32] [4])
  (.ret))
 AR9
def ASl : AFb := .seq (.ops [mv_ 26 5,
  po_ 27 (.bin 3 .eql (.t 26) (ci_ 1)),
  mv_ 25 27] [0, 1, 4, 5, 12, 25])
 ARl
def ARx : AFb := .cond (.t 22)
 (.seq (.ops [po_ 4 (.mov (ci_ 0))] [4])
  (.ret))
 ASl
def ARw : AFb := .seq (.ops [mv_ 145 0,
  mv_ 146 15,
  po_ 147 (.bin 3 .add (.t 146) (ci_ 1)),
  mv_ 148 17,
  po_ 149 (.slV 1 (.t 145) (some (.t 147)) (some (.t 148))),
  mv_ 150 13,
  so_ 151 (.call 146 [.t 149, .t 150]),
  mv_ 18 151] [0, 1, 5, 13, 14, 15, 16, 17, 18])
 (.seq (.seq (.ops [mv_ 152 18,
  po_ 153 (.bin 3 .lss (.t 152) (ci_ 0))] [0, 1, 5, 13, 14, 15, 16, 17, 18, 153])
 (.cond (.t 153)
 (.exit 3)
 (.skip)))
 (.ops [mv_ 154 15,
  mv_ 155 18,
  po_ 156 (.bin 3 .add (.t 155) (ci_ 1)),
  po_ 157 (.bin 3 .add (.t 154) (.t 156)),
  mv_ 15 157] [0, 1, 5, 13, 14, 15, 16, 17]))
def ASq : AFb := .cond (.t 144)
 ARw
 (.skip)
def ARF : AFb := .seq (.ops [mv_ 190 0,
  mv_ 191 15,
  po_ 192 (.slV 1 (.t 190) (some (.t 191)) none),
  mv_ 193 1,
  so_ 194 (.call 150 [.t 192, .t 193]),
  mv_ 19 194] [15, 19])
 (.seq (.seq (.ops [mv_ 195 19,
  po_ 196 (.bin 3 .lss (.t 195) (ci_ 0))] [15, 19, 196])
 (.cond (.t 196)
 (.seq (.ops [po_ 4 (.mov (.c (.int .i64 (-1))))] [4])
  (.ret))
 (.skip)))
 (.seq (.ops [mv_ 197 15,
  mv_ 198 19,
  po_ 199 (.bin 3 .add (.t 197) (.t 198)),
  mv_ 4 199] [4])
 (.ret)))
def ARn : AFb := .cond (.t 189)
 ARF
 (.skip)
def ARX : AFb := .seq (.ops [mv_ 180 16,
  mv_ 181 15,
  po_ 182 (.bin 3 .shr (.t 181) (.c (.int .u64 ((4 : Nat) : Int)))),
  po_ 183 (.bin 3 .add (ci_ 4) (.t 182)),
  po_ 184 (.bin 3 .geq (.t 180) (.t 183)),
  mv_ 185 184,
  ⟨some 186, .p (.mov (.t 15)), some ⟨185, true⟩⟩,
  ⟨some 187, .p (.mov (.t 17)), some ⟨185, true⟩⟩,
  ⟨some 188, .p (.bin 3 .lss (.t 186) (.t 187)), some ⟨185, true⟩⟩,
  po_ 189 (.pick (.t 185) (.t 188) (.c (.bool false)))] [0, 1, 5, 13, 14, 15, 16, 17, 189])
 ARn
def AQW : AFb := .seq (.ops [mv_ 178 16,
  po_ 179 (.bin 3 .add (.t 178) (ci_ 1)),
  mv_ 16 179] [0, 1, 5, 13, 14, 15, 16, 17])
 ARX
def ASh : AFb := .seq (.ops [mv_ 176 15,
  po_ 177 (.bin 3 .add (.t 176) (ci_ 1)),
  mv_ 15 177] [0, 1, 5, 13, 14, 15, 16, 17])
 AQW
def AQM : AFb := .seq (.seq (.ops [mv_ 158 0,
  mv_ 159 15,
  po_ 160 (.bin 3 .add (.t 159) (ci_ 1)),
  po_ 161 (.idxA 1 (.t 158) (.t 160)),
  po_ 162 (.load false 1 (.t 161)),
  mv_ 163 14,
  po_ 164 (.bin 5 .eql (.t 162) (.t 163)),
  mv_ 165 164,
  ⟨some 166, .p (.mov (.t 0)), some ⟨165, true⟩⟩,
  ⟨some 167, .p (.mov (.t 15)), some ⟨165, true⟩⟩,
  ⟨some 168, .p (.mov (.t 15)), some ⟨165, true⟩⟩,
  ⟨some 169, .p (.mov (.t 5)), some ⟨165, true⟩⟩,
  ⟨some 170, .p (.bin 3 .add (.t 168) (.t 169)), some ⟨165, true⟩⟩,
  ⟨some 171, .p (.slV 1 (.t 166) (some (.t 167)) (some (.t 170))), some ⟨165, true⟩⟩,
  ⟨some 172, .p (.mov (.t 1)), some ⟨165, true⟩⟩,
  ⟨some 173, .s (.call 147 [.t 171, .t 172]), some ⟨165, true⟩⟩,
  po_ 174 (.pick (.t 165) (.t 173) (.c (.bool false)))] [0, 1, 5, 13, 14, 15, 16, 17, 174])
 (.cond (.t 174)
 (.seq (.ops [mv_ 175 15,
   mv_ 4 175] [4])
  (.ret))
 (.skip)))
 ASh
def ASE : AFb := .block 4 (.seq (.seq (.ops [mv_ 139 0,
  mv_ 140 15,
  po_ 141 (.idxA 1 (.t 139) (.t 140)),
  po_ 142 (.load false 1 (.t 141)),
  mv_ 143 13,
  po_ 144 (.bin 5 .neq (.t 142) (.t 143))] [0, 1, 5, 13, 14, 15, 16, 17, 144])
 ASq)
 AQM)
def ASp : AFb := .seq (.seq (.ops [mv_ 136 15,
  mv_ 137 17,
  po_ 138 (.bin 3 .lss (.t 136) (.t 137))] [0, 1, 5, 13, 14, 15, 16, 17, 138])
 (.cond (.t 138)
 (.skip)
 (.exit 3)))
 ASE
def ARY : AFb := .seq (.ops [po_ 4 (.mov (.c (.int .i64 (-1))))] [4])
 (.ret)
def ASi : AFb := .seq (.block 3 (.loop [0, 1, 5, 13, 14, 15, 16, 17] ASp))
 ARY
def ARs : AFb := .seq (.ops [mv_ 131 0,
  po_ 132 (.lenV (.t 131)),
  mv_ 133 5,
  po_ 134 (.bin 3 .sub (.t 132) (.t 133)),
  po_ 135 (.bin 3 .add (.t 134) (ci_ 1)),
  mv_ 17 135] [0, 1, 5, 13, 14, 15, 16, 17])
 ASi
def AQ5 : AFb := .seq (.ops [po_ 16 (.mov (ci_ 0))] [0, 1, 5, 13, 14, 15, 16])
 ARs
def ARV : AFb := .seq (.ops [po_ 15 (.mov (ci_ 0))] [0, 1, 5, 13, 14, 15])
 AQ5
def ARP : AFb := .seq (.ops [mv_ 128 1,
  po_ 129 (.idxA 1 (.t 128) (ci_ 1)),
  po_ 130 (.load false 1 (.t 129)),
  mv_ 14 130] [0, 1, 5, 13, 14])
 ARV
def ASw : AFb := .seq (.ops [mv_ 125 1,
  po_ 126 (.idxA 1 (.t 125) (ci_ 0)),
  po_ 127 (.load false 1 (.t 126)),
  mv_ 13 127] [0, 1, 5, 13])
 ARP
def ASC : AFb := .seq (.block 0 (.seq (.ops [mv_ 23 5,
  po_ 24 (.bin 3 .eql (.t 23) (ci_ 0)),
  mv_ 22 24] [0, 1, 4, 5, 12, 22])
 ARx))
 ASw
def ASs : AFb := .seq (.ops [mv_ 20 1,
  po_ 21 (.lenV (.t 20)),
  mv_ 5 21] [0, 1, 4, 5, 12])
 ASC
def AZu : AFb := .seq (.ops [po_ 4 (.mov (ci_ 0))] [0, 1, 4, 12])
 ASs
def AZD : List VR := [.tmp 4]
theorem A4l : Tryz.f122.body.bind (trC Tryz.prog Tryz.f122.ntmps) = some (er AZu) := by kernel_rfl
theorem A4F : trR Tryz.prog Tryz.f122.results.toList = some AZD := by kernel_rfl
def AZq := AE7 ATr.eq_1
def AYX := AE7 ATq.eq_1
def AYP := AE7 ATx.eq_1
def AZw := AE7 ATu.eq_1
def AYM := AE7 ATF.eq_1
def AZH := AE7 ATP.eq_1
def AZn := AE7 ATQ.eq_1
def AZp := AE7 ATL.eq_1
def AY1 := AE7 ATI.eq_1
def AXQ := AE7 AQI.eq_1
def AXZ := AE7 AR4.eq_1
def AYs := AE7 AQN.eq_1
def AYo := AE7 AQV.eq_1
def AW9 := AE7 ARL.eq_1
def AW7 := AE7 ARZ.eq_1
def AXz := AE7 ARR.eq_1
def AXW := AE7 ASB.eq_1
def AXL := AE7 ASa.eq_1
def AYp := AE7 ARU.eq_1
def AYw := AE7 AQJ.eq_1
def AX5 := AE7 ASv.eq_1
def AXj := AE7 AR9.eq_1
def AYh := AE7 ARl.eq_1
def AYA := AE7 ASl.eq_1
def AYC := AE7 ARx.eq_1
def AX3 := AE7 ARw.eq_1
def AX0 := AE7 ASq.eq_1
def AXc := AE7 ARF.eq_1
def AX4 := AE7 ARn.eq_1
def AX6 := AE7 ARX.eq_1
def AXo := AE7 AQW.eq_1
def AXC := AE7 ASh.eq_1
def AXn := AE7 AQM.eq_1
def AYg := AE7 ASE.eq_1
def AXs := AE7 ASp.eq_1
def AXk := AE7 ARY.eq_1
def AXp := AE7 ASi.eq_1
def AXe := AE7 ARs.eq_1
def AYn := AE7 AQ5.eq_1
def AXO := AE7 ARV.eq_1
def AXS := AE7 ARP.eq_1
def AXX := AE7 ASw.eq_1
def AXR := AE7 ASC.eq_1
def AXD := AE7 ASs.eq_1
def A2P := AE7 AZu.eq_1
theorem A2H {K : TV → Prop} {e : Env} {H : List Ob} : res AZD e H K = res [.tmp 4] e H K := AE9 rfl
def AY7 := (And.intro (And.intro (And.intro (And.intro (And.intro (And.intro @AZq @AYX) (And.intro @AYP @AZw)) (And.intro (And.intro @AYM @AZH) (And.intro @AZn @AZp))) (And.intro (And.intro (And.intro @AY1 @AXQ) (And.intro @AXZ @AYs)) (And.intro (And.intro @AYo @AW9) (And.intro @AW7 @AXz)))) (And.intro (And.intro (And.intro (And.intro @AXW @AXL) (And.intro @AYp @AYw)) (And.intro (And.intro @AX5 @AXj) (And.intro @AYh @AYA))) (And.intro (And.intro (And.intro @AYC @AX3) (And.intro @AX0 @AXc)) (And.intro (And.intro @AX4 @AX6) (And.intro @AXo @AXC))))) (And.intro (And.intro (And.intro (And.intro @AXn @AYg) (And.intro @AXs @AXk)) (And.intro (And.intro @AXp @AXe) (And.intro @AYn @AXO))) (And.intro (And.intro (And.intro @AXS @AXX) (And.intro @AXR @AXD)) (And.intro @A2P @A2H))))
def A3p := AGG 200 Tryz.func122 A4l A4F rfl

end Go.Proofs.YtliaddbbmnfioaaGreatDoor


namespace Go.Proofs.YtliaddbbmnfioaaGreatDoor
open Go.RowKit
variable [AFG]
set_option linter.unusedSectionVars false
set_option linter.unusedVariables false
set_option linter.unusedSimpArgs false

/-- A kind's name. -/
def AGS (k : Int) : Option (List UInt8) := if k = 1 then some [99, 111, 109, 109, 105, 116] else if k = 2 then some [116, 114, 101, 101] else if k = 3 then some [98, 108, 111, 98] else if k = 4 then some [116, 97, 103] else none
theorem AOo {k : Int} {n : List UInt8} (h : AGS k = some n) : 1 ≤ k ∧ k ≤ 4 ∧ n.length ≤ 6 := by
 unfold AGS at h
 split at h
 ·cases h; simp; omega
 ·split at h
  ·cases h; simp; omega
  ·split at h
   ·cases h; simp; omega
   ·split at h
    ·cases h; simp; omega
    ·cases h
section
variable [AFq]
theorem A8u : AF3.tv = .arr 5 1 [ts [], ts [99, 111, 109, 109, 105, 116], ts [116, 114, 101, 101], ts [98, 108, 111, 98], ts [116, 97, 103]] := by rfl
theorem Bam (k : Int) (h1 : -9223372036854775808 ≤ k) (h2 : k ≤ 9223372036854775807) : AFE Tryz.prog 25 [i64 k] (fun r => (∀ n, AGS k = some n → r = .tup [ts n, tb true]) ∧ (AGS k = none → r = .tup [ts [], tb false])) := by
 refine AFk.toPureV (AZz (by simp) ?_)
 by_cases c1 : k < 1
 ·have hn : AGS k = none := by unfold AGS; rw [if_neg (by omega), if_neg (by omega), if_neg (by omega), if_neg (by omega)]
  simp -dsimp (disch := first | assumption | omega | (simp only [AE8]; done) | (simp only [AE8]; omega)) only [↓AFe, AFa, AFc, AFd, eq_self, Nat.reduceEqDiff, ↓reduceIte, reduceCtorEq, ↓AMd]
  rw [hn]
  simp
 by_cases c4 : k > 4
 ·have hn : AGS k = none := by unfold AGS; rw [if_neg (by omega), if_neg (by omega), if_neg (by omega), if_neg (by omega)]
  simp -dsimp (disch := first | assumption | omega | (simp only [AE8]; done) | (simp only [AE8]; omega)) only [↓AFe, AFa, AFc, AFd, eq_self, Nat.reduceEqDiff, ↓reduceIte, reduceCtorEq, ↓AMd]
  rw [hn]
  simp
 obtain ⟨j, rfl⟩ : ∃ j : Nat, k = (j : Int) := ⟨k.toNat, by omega⟩
 have hk := AFq.k
 obtain h | h | h | h : j = 1 ∨ j = 2 ∨ j = 3 ∨ j = 4 := by omega
 all_goals
  subst h
  simp -dsimp (disch := first | assumption | omega | (simp only [AE8]; done) | (simp only [AE8]; omega)) only [↓AFe, AFa, AFc, AFd, eq_self, Nat.reduceLT, Nat.reduceEqDiff, ↓reduceIte, reduceCtorEq, ↓AMd, hk, A8u]
  simp [AGS]
end
end Go.Proofs.YtliaddbbmnfioaaGreatDoor


namespace Go.Proofs.YtliaddbbmnfioaaGreatDoor
open Go.RowKit
variable [AFG]
set_option linter.unusedSectionVars false
set_option linter.unusedVariables false
set_option linter.unusedSimpArgs false

/-- A decimal digit. -/
def AIR (b : UInt8) : Bool := 48 ≤ b.toNat && b.toNat ≤ 57
/-- Digits aS a number, from one on. -/
def AQ2 : Nat → List UInt8 → Nat
 | n, [] => n
 | n, b :: l => AQ2 (n * 10 + (b.toNat - 48)) l
theorem APd : ∀ (l m : List UInt8) (n : Nat), AQ2 n (l ++ m) = AQ2 (AQ2 n l) m
 | [], _, _ => rfl
 | b :: l, m, n => APd l m _
theorem A7I : ∀ (l : List UInt8) (n : Nat), n ≤ AQ2 n l
 | [], n => Nat.le_refl _
 | b :: l, n => Nat.le_trans (by omega) (A7I l _)
/-- What ParseUint says: the number, or none. -/
def pU (s : List UInt8) : Option Nat := if s ≠ [] ∧ s.all AIR ∧ AQ2 0 s < 4611686018427387904 then some (AQ2 0 s) else none
theorem Bpm : ∀ b : Nat, b < 256 → ¬ (48 ≤ b ∧ b ≤ 57) → 97 ≤ b ||| 32 → b ||| 32 ≤ 122 → 10 ≤ (b ||| 32) - 97 + 10 := by
 intro b h1 h2 h3 h4; omega
/-- What the walk answers. -/
def A5Z (s : List UInt8) (r : TV) : Prop := (∀ n, pU s = some n → r = .tup [.val (.int .u64 (n : Int)), .val .nilIface]) ∧ (pU s = none → ∃ m c : Nat, (c = 1 ∨ c = 2) ∧ r = .tup [.val (.int .u64 (m : Int)), .ifc 228 (i64 (c : Int))])
theorem A5Z.no {s : List UInt8} (h : pU s = none) {m c : Nat} (hc : c = 1 ∨ c = 2) : A5Z s (.tup [.val (.int .u64 (m : Int)), .ifc 228 (i64 (c : Int))]) :=
 ⟨fun n hn => (by rw [h] at hn; cases hn), fun _ => ⟨m, c, hc, rfl⟩⟩
theorem A5Z.yes {s : List UInt8} {n : Nat} (h : pU s = some n) : A5Z s (.tup [.val (.int .u64 (n : Int)), .val .nilIface]) :=
 ⟨fun m hm => (by rw [h] at hm; cases hm; rfl), fun hn => (by rw [h] at hn; cases hn)⟩
theorem Blp {s : List UInt8} {i : Nat} {b : UInt8} (h : s[i]? = some b) (hb : AIR b = false) : pU s = none := by
 unfold pU
 rw [if_neg]
 rintro ⟨_, h2, _⟩
 have := List.all_eq_true.1 h2 b (List.mem_of_getElem? h)
 rw [hb] at this; cases this
theorem Bgo {s : List UInt8} {i : Nat} (h : 4611686018427387904 ≤ AQ2 0 (s.take i)) : pU s = none := by
 unfold pU
 rw [if_neg]
 rintro ⟨_, _, h3⟩
 have : AQ2 0 s = AQ2 (AQ2 0 (s.take i)) (s.drop i) := by rw [← APd, List.take_append_drop]
 have h4 := A7I (s.drop i) (AQ2 0 (s.take i))
 omega
theorem ATs (b : UInt8) : AFE Tryz.prog 151 [by8 b] (fun r => r = .val (.int .u8 ((b.toNat ||| 32 : Nat) : Int))) := by
 refine AFk.toPureV (APS (by simp) ?_)
 have hb := b.toNat_lt
 simp -dsimp (disch := first | assumption | omega | (simp only [AE8]; done) | (simp only [AE8]; omega)) only [↓AFe, AFa, AFc, AFd, eq_self, ↓reduceIte, reduceCtorEq, ↓ARj, BoY]
theorem BkV (s : List UInt8) (hs : s.length ≤ 1000000) : AFE Tryz.prog 123 [ts s, i64 ((10 : Nat) : Int), i64 ((62 : Nat) : Int)] (A5Z s) := by
 refine AFk.toPureV (AIM (by simp) ?_)
 by_cases h0 : s = []
 ·subst h0
  have hn : pU [] = none := by unfold pU; simp
  simp -dsimp (disch := first | assumption | omega | (simp only [AE8]; done) | (simp only [AE8]; omega)) only [↓AFe, AFa, AFc, AFd, eq_self, Nat.reduceEqDiff, ↓reduceIte, Nat.reduceAdd, reduceCtorEq, ↓AGj, ↓AF6, ↓AFf]
  exact A5Z.no hn (.inr rfl)
 have hw1 : IntKind.u64.wrap ((62 : Nat) : Int) = ((62 : Nat) : Int) := ASH (by omega)
 simp -dsimp (disch := first | assumption | omega | (simp only [AE8]; done) | (simp only [AE8]; omega)) only [↓AFe, AFa, AFc, AFd, eq_self, Nat.reduceLT, Nat.reduceEqDiff, ↓reduceIte, Nat.reduceAdd, reduceCtorEq, Nat.reduceLeDiff, ↓AGj, ↓AF6, h0, ↓AHq, ↓AHG, ↓AHy, ↓AHw, ↓AHC, ↓AHD]
 simp -dsimp (disch := first | assumption | omega | (simp only [AE8]; done) | (simp only [AE8]; omega)) only [↓AFe, AFa, AFc, AFd, eq_self, Nat.reduceEqDiff, Nat.reduceSub, Nat.reduceMul, Nat.reducePow, ↓reduceIte, reduceCtorEq, ↓AHo, ↓AHv, ↓AHL, hw1, A8X, A81, ↓AHu, ↓AHs, ↓AHr, AFi, ↓AHJ]
 refine AI0 (fun q e H => ∃ (i n : Nat), q = s.length - i ∧ i ≤ s.length ∧ (s.take i).all AIR = true ∧ n = AQ2 0 (s.take i) ∧ n < 4611686018427387904 ∧ H = [.obj 0 (.arr s.length 1 (s.map by8))] ∧
  e = [(1, i64 ((10 : Nat) : Int)), (8, tb false), (9, ts s), (10, .val (.int .u64 ((1844674407370955162 : Nat) : Int))), (11, .val (.int .u64 ((4611686018427387903 : Nat) : Int))), (12, tb false), (13, .val (.int .u64 (n : Int))), (99, .os 1 0 0 [] 0 s.length s.length), (100, i64 (s.length : Int)), (101, i64 (i : Int))]) s.length ?_ ?_
 ·refine ⟨0, 0, ?_, Nat.zero_le _, ?_, ?_, ?_, ?_, ?_⟩
  ·simp
  ·rw [List.take_zero]; rfl
  ·rw [List.take_zero]; rfl
  ·omega
  ·simp
  ·simp [forget, get]
 ·rintro q e H ⟨i, n, rfl, hi, hall, hn, hnl, rfl, rfl⟩
  by_cases c : i < s.length
  ·have hg : s[i]? = some s[i] := List.getElem?_eq_getElem c
   have hsucc := List.take_succ_eq_append_getElem c
   generalize s[i] = b at *
   have hb := b.toNat_lt
   have hnum : AQ2 0 (s.take (i + 1)) = n * 10 + (b.toNat - 48) := by rw [hsucc, APd, ← hn]; rfl
   have hw10 : IntKind.u8.wrap ((10 : Nat) : Int) = ((10 : Nat) : Int) := by decide
   have hw10' : IntKind.u64.wrap ((10 : Nat) : Int) = ((10 : Nat) : Int) := by decide
   by_cases hd : 48 ≤ b.toNat ∧ b.toNat ≤ 57
   ·have hisd : AIR b = true := by unfold AIR; simp [hd]
    have h95 : ¬ b.toNat = 95 := by omega
    have hwd : IntKind.u64.wrap ((b.toNat - 48 : Nat) : Int) = ((b.toNat - 48 : Nat) : Int) := ASH (by omega)
    by_cases hc : 1844674407370955162 ≤ n
    ·have hno := Bgo (s := s) (i := i + 1) (by rw [hnum]; omega)
     simp -dsimp (disch := first | assumption | omega | (simp only [AE8]; done) | (simp only [AE8]; omega)) only [↓AFe, AFa, AFc, AFd, eq_self, Nat.reduceEqDiff, ↓reduceIte, ↓AFn, ↓AFl, ↓AFB, hg, ↓AFw, ↓AFz, h95, ↓AFx, ↓AFA, ↓AFm, ATG, ↓AFy, hw10, ↓AGt, ↓AFf]
     exact A5Z.no hno (.inl rfl)
    ·have hnl2 := hnl
     clear hnl
     have hn10 : n * 10 < 18446744073709551616 := by omega
     have hadd : ∀ t, AHA t .add (.int .u64 ((n * 10 : Nat) : Int)) (.int .u64 ((b.toNat - 48 : Nat) : Int)) = some (.int .u64 (((n * 10 + (b.toNat - 48)) % 18446744073709551616 : Nat) : Int)) := fun t => by
      rw [show AHA t .add (.int .u64 ((n * 10 : Nat) : Int)) (.int .u64 ((b.toNat - 48 : Nat) : Int)) = some (.int .u64 (IntKind.u64.wrap (((n * 10 : Nat) : Int) + ((b.toNat - 48 : Nat) : Int)))) from rfl, IntKind.wrap_u64]
      congr 2
     simp -dsimp (disch := first | assumption | omega | (simp only [AE8]; done) | (simp only [AE8]; omega)) only [↓AFe, AFa, AFc, AFd, eq_self, Nat.reduceEqDiff, ↓reduceIte, ↓AFn, ↓AFl, ↓AFB, hg, ↓AFw, ↓AFz, h95, ↓AFx, ↓AFA, ↓AFm, ATG, ↓AFy, hw10, ↓AGt, ↓AHF, hw10', A4x, ↓AHH, hwd, hadd, ↓AHx]
     by_cases hbig : 4611686018427387904 ≤ n * 10 + (b.toNat - 48)
     ·have hno := Bgo (s := s) (i := i + 1) (by rw [hnum]; exact hbig)
      by_cases hwr : (n * 10 + (b.toNat - 48)) % 18446744073709551616 < n * 10
      ·simp -dsimp (disch := first | assumption | omega | (simp only [AE8]; done) | (simp only [AE8]; omega)) only [↓AFe, AFa, AFc, AFd, eq_self, Nat.reduceEqDiff, ↓reduceIte, ↓AFf]
       exact A5Z.no hno (.inl rfl)
      ·have hgt : (n * 10 + (b.toNat - 48)) % 18446744073709551616 > 4611686018427387903 := by omega
       simp -dsimp (disch := first | assumption | omega | (simp only [AE8]; done) | (simp only [AE8]; omega)) only [↓AFe, AFa, AFc, AFd, eq_self, Nat.reduceEqDiff, ↓reduceIte, ↓AFf]
       exact A5Z.no hno (.inl rfl)
     ·have hmod : (n * 10 + (b.toNat - 48)) % 18446744073709551616 = n * 10 + (b.toNat - 48) := Nat.mod_eq_of_lt (by omega)
      rw [hmod]
      simp -dsimp (disch := first | assumption | omega | (simp only [AE8]; done) | (simp only [AE8]; omega)) only [↓AFe, AFa, AFc, AFd, eq_self, Nat.reduceEqDiff, ↓reduceIte]
      exact AFO (s.length - (i + 1)) (by omega) (by simp) ⟨i + 1, n * 10 + (b.toNat - 48), rfl, by omega, by rw [hsucc, List.all_append, hall]; simp [hisd], hnum.symm, by omega, rfl, by simp [forget, get]⟩
   ·have hno := Blp hg (show AIR b = false by unfold AIR; simp; omega)
    by_cases h95 : b.toNat = 95
    ·have hor : (b.toNat ||| 32) = 127 := by rw [h95]; rfl
     simp -dsimp (disch := first | assumption | omega | (simp only [AE8]; done) | (simp only [AE8]; omega)) only [↓AFe, AFa, AFc, AFd, eq_self, Nat.reduceEqDiff, ↓reduceIte, Nat.reduceLeDiff, ↓AFn, ↓AFl, ↓AFB, hg, ↓AFw, ↓AFz, h95, ↓AFx, ↓AFA, ↓AFm, ↓AFD]
     refine (ATs b).calls rfl fun r hr => ?_
     subst hr
     rw [hor]
     simp -dsimp (disch := first | assumption | omega | (simp only [AE8]; done) | (simp only [AE8]; omega)) only [↓AFe, AFa, AFc, AFd, eq_self, Nat.reduceEqDiff, ↓reduceIte, Nat.reduceLeDiff]
     refine (ATs b).calls rfl fun r hr => ?_
     subst hr
     rw [hor]
     simp -dsimp (disch := first | assumption | omega | (simp only [AE8]; done) | (simp only [AE8]; omega)) only [↓AFe, AFa, AFc, AFd, eq_self, Nat.reduceEqDiff, ↓reduceIte, Nat.reduceLeDiff, ↓AFf]
     exact A5Z.no hno (.inr rfl)
    ·have hl := Bpm b.toNat hb hd
     simp -dsimp (disch := first | assumption | omega | (simp only [AE8]; done) | (simp only [AE8]; omega)) only [↓AFe, AFa, AFc, AFd, eq_self, Nat.reduceEqDiff, ↓reduceIte, ↓AFn, ↓AFl, ↓AFB, hg, ↓AFw, ↓AFz, h95, ↓AFx, ↓AFA]
     by_cases c48 : 48 ≤ b.toNat
     ·have c57 : ¬ b.toNat ≤ 57 := by omega
      simp -dsimp (disch := first | assumption | omega | (simp only [AE8]; done) | (simp only [AE8]; omega)) only [↓AFe, AFa, AFc, AFd, eq_self, Nat.reduceEqDiff, ↓reduceIte, ↓AFm, ↓AFD]
      refine (ATs b).calls rfl fun r hr => ?_
      subst hr
      have hlw := ATs b
      generalize b.toNat ||| 32 = x at *
      by_cases c97 : 97 ≤ x
      ·simp -dsimp (disch := first | assumption | omega | (simp only [AE8]; done) | (simp only [AE8]; omega)) only [↓AFe, AFa, AFc, AFd, eq_self, Nat.reduceEqDiff, ↓reduceIte]
       refine hlw.calls rfl fun r hr => ?_
       subst hr
       by_cases c122 : x ≤ 122
       ·have h10 := hl c97 c122
        have hmod : (x - 97 + 10) % 256 = x - 97 + 10 := Nat.mod_eq_of_lt (by omega)
        simp -dsimp (disch := first | assumption | omega | (simp only [AE8]; done) | (simp only [AE8]; omega)) only [↓AFe, AFa, AFc, AFd, eq_self, Nat.reduceEqDiff, ↓reduceIte]
        refine hlw.calls rfl fun r hr => ?_
        subst hr
        simp -dsimp (disch := first | assumption | omega | (simp only [AE8]; done) | (simp only [AE8]; omega)) only [↓AFe, AFa, AFc, AFd, eq_self, Nat.reduceEqDiff, ↓reduceIte, Nat.reduceLeDiff, ATG, A1h, hmod, ↓AFy, hw10, ↓AFf]
        exact A5Z.no hno (.inr rfl)
       ·simp -dsimp (disch := first | assumption | omega | (simp only [AE8]; done) | (simp only [AE8]; omega)) only [↓AFe, AFa, AFc, AFd, eq_self, Nat.reduceEqDiff, ↓reduceIte, ↓AFf]
        exact A5Z.no hno (.inr rfl)
      ·simp -dsimp (disch := first | assumption | omega | (simp only [AE8]; done) | (simp only [AE8]; omega)) only [↓AFe, AFa, AFc, AFd, eq_self, Nat.reduceEqDiff, ↓reduceIte, ↓AFf]
       exact A5Z.no hno (.inr rfl)
     ·simp -dsimp (disch := first | assumption | omega | (simp only [AE8]; done) | (simp only [AE8]; omega)) only [↓AFe, AFa, AFc, AFd, eq_self, Nat.reduceEqDiff, ↓reduceIte, ↓AFm, ↓AFD]
      refine (ATs b).calls rfl fun r hr => ?_
      subst hr
      have hlw := ATs b
      generalize b.toNat ||| 32 = x at *
      by_cases c97 : 97 ≤ x
      ·simp -dsimp (disch := first | assumption | omega | (simp only [AE8]; done) | (simp only [AE8]; omega)) only [↓AFe, AFa, AFc, AFd, eq_self, Nat.reduceEqDiff, ↓reduceIte]
       refine hlw.calls rfl fun r hr => ?_
       subst hr
       by_cases c122 : x ≤ 122
       ·have h10 := hl c97 c122
        have hmod : (x - 97 + 10) % 256 = x - 97 + 10 := Nat.mod_eq_of_lt (by omega)
        simp -dsimp (disch := first | assumption | omega | (simp only [AE8]; done) | (simp only [AE8]; omega)) only [↓AFe, AFa, AFc, AFd, eq_self, Nat.reduceEqDiff, ↓reduceIte]
        refine hlw.calls rfl fun r hr => ?_
        subst hr
        simp -dsimp (disch := first | assumption | omega | (simp only [AE8]; done) | (simp only [AE8]; omega)) only [↓AFe, AFa, AFc, AFd, eq_self, Nat.reduceEqDiff, ↓reduceIte, Nat.reduceLeDiff, ATG, A1h, hmod, ↓AFy, hw10, ↓AFf]
        exact A5Z.no hno (.inr rfl)
       ·simp -dsimp (disch := first | assumption | omega | (simp only [AE8]; done) | (simp only [AE8]; omega)) only [↓AFe, AFa, AFc, AFd, eq_self, Nat.reduceEqDiff, ↓reduceIte, ↓AFf]
        exact A5Z.no hno (.inr rfl)
      ·simp -dsimp (disch := first | assumption | omega | (simp only [AE8]; done) | (simp only [AE8]; omega)) only [↓AFe, AFa, AFc, AFd, eq_self, Nat.reduceEqDiff, ↓reduceIte, ↓AFf]
       exact A5Z.no hno (.inr rfl)
  ·have hi2 : i = s.length := by omega
   subst hi2
   rw [List.take_length] at hn hall
   have hyes : pU s = some n := by unfold pU; rw [if_pos ⟨h0, hall, by rw [← hn]; exact hnl⟩, hn]
   simp -dsimp (disch := first | assumption | omega | (simp only [AE8]; done) | (simp only [AE8]; omega)) only [↓AFe, AFa, AFc, AFd, eq_self, Nat.reduceEqDiff, ↓reduceIte, ↓AFn, ↓AFl, ↓AHp, ↓AFf]
   exact A5Z.yes hyes
end Go.Proofs.YtliaddbbmnfioaaGreatDoor


namespace Go.Proofs.YtliaddbbmnfioaaGreatDoor
open Go.RowKit
variable [AFG]
set_option linter.unusedSectionVars false
set_option linter.unusedVariables false
set_option linter.unusedSimpArgs false

/-- These package variables hold an error each. -/
class AFp [AFG] : Prop where
 k : ∃ t a, AKT 4 = some (.one (.iface t (.pointer (some a))))
class AFr [AFG] : Prop where
 k : ∃ t a, AKT 5 = some (.one (.iface t (.pointer (some a))))
theorem A51 {F : Nat → Prop} {w : World} (h : AJB F w) {g : Nat} {v : Value} (e : AKT g = some (.one v)) : w.cell? ⟨g, 0, none⟩ = some v := by
 have := h.at e 0 v rfl
 simpa using this
variable [AFp] [AFr]
theorem BgG (fn s : List UInt8) (base bits : Int) (hs : s.length ≤ 1000000) (c : Nat) (hc : c = 1 ∨ c = 2) : AFE Tryz.prog 124 [ts fn, ts s, i64 base, i64 bits, .ifc 228 (i64 (c : Int))] (fun r => r = .ifc 229 .any) := by
 intro β F w vs hF hv
 obtain ⟨v1, us, rfl, h1, hv⟩ := AF9.cons.1 hv
 obtain ⟨v2, us, rfl, h2, hv⟩ := AF9.cons.1 hv
 obtain ⟨v3, us, rfl, h3, hv⟩ := AF9.cons.1 hv
 obtain ⟨v4, us, rfl, h4, hv⟩ := AF9.cons.1 hv
 obtain ⟨v5, us, rfl, h5, hv⟩ := AF9.cons.1 hv
 rw [AF9.nil] at hv; subst hv
 obtain rfl := Rep.val.1 (Or.inl h1 : Rep _ _ _ _)
 obtain rfl := Rep.val.1 (Or.inl h2 : Rep _ _ _ _)
 obtain rfl := Rep.val.1 (Or.inl h3 : Rep _ _ _ _)
 obtain rfl := Rep.val.1 (Or.inl h4 : Rep _ _ _ _)
 have e5 : v5 = .iface 228 (.int .i64 (c : Int)) := by
  rcases h5 with h5 | h5 | ⟨us, h5, rfl⟩
  ·cases h5
  ·cases h5
  ·rw [AFh] at h5
   obtain ⟨u, rfl, vs, h6, rfl⟩ := h5
   rw [AFh] at h6
   rw [h6.1]; rfl
 subst e5
 have hsz : (str s).size ≤ 281474976710656 := by simp [str, ByteArray.size]; omega
 have fin : ∀ e w', (∃ N, e = Ending.returned (.iface 229 (.pointer (some ⟨N, 0, none⟩))) ∧ Below w.heap.size w w') → ∃ v x F', e = .returned v ∧ x = .ifc 229 .any ∧ Rep ⟨β, [], F'⟩ w' x v ∧ ATn F w F' w' := by
  rintro e w' ⟨N, rfl, hb⟩
  refine ⟨_, _, F, rfl, rfl, Rep.of_cells (us := [.iface 229 (.pointer (some ⟨N, 0, none⟩))]) ?_, ⟨hb.os, hb.tape, hb.output, hb.size, hb.block, fun _ h => h, fun _ _ h => h, fun b hb' => Nat.lt_of_lt_of_le (hF.1 b hb') hb.size⟩⟩
  rw [AFh]
  refine ⟨_, rfl, [.pointer (some ⟨N, 0, none⟩)], ?_, rfl⟩
  rw [AFh]
  exact ⟨_, rfl, rfl⟩
 rcases hc with rfl | rfl
 ·obtain ⟨t, a, hk⟩ := AFr.k
  refine (Tryz.strconv_toError_range (str fn) (str s) base bits _ w hsz (A51 hF.2 hk) (.inr ⟨_, _, rfl⟩)).mono ?_
  rintro e w' ⟨N, rfl, _, _, hb⟩
  exact fin _ _ ⟨N, rfl, hb⟩
 ·obtain ⟨t, a, hk⟩ := AFp.k
  refine (Tryz.strconv_toError_syntax (str fn) (str s) base bits _ w hsz (A51 hF.2 hk) (.inr ⟨_, _, rfl⟩)).mono ?_
  rintro e w' ⟨N, rfl, _, _, hb⟩
  exact fin _ _ ⟨N, rfl, hb⟩
/-- The number, or an error. -/
theorem A9S (s : List UInt8) (hs : s.length ≤ 1000000) : AFE Tryz.prog 89 [ts s, i64 ((10 : Nat) : Int), i64 ((62 : Nat) : Int)] (fun r => (∀ n, pU s = some n → r = .tup [.val (.int .u64 (n : Int)), .val .nilIface]) ∧ (pU s = none → ∃ m : Nat, r = .tup [.val (.int .u64 (m : Int)), .ifc 229 .any])) := by
 refine AFk.toPureV (AN4 (by simp) ?_)
 simp -dsimp (disch := first | assumption | omega | (simp only [AE8]; done) | (simp only [AE8]; omega)) only [↓AFe, AFa, AFc, AFd, eq_self, Nat.reduceEqDiff, ↓reduceIte, Nat.reduceAdd, reduceCtorEq, ↓AGd]
 refine (BkV s hs).calls rfl fun r hr => ?_
 cases hp : pU s with
 | some n =>
  rw [hr.1 n hp]
  simp -dsimp (disch := first | assumption | omega | (simp only [AE8]; done) | (simp only [AE8]; omega)) only [↓AFe, AFa, AFc, AFd, eq_self, Nat.reduceEqDiff, ↓reduceIte, reduceCtorEq, ↓AGd]
  exact ⟨fun m hm => (by cases hm; rfl), fun h => (by cases h)⟩
 | none =>
  obtain ⟨m, c, hc, rfl⟩ := hr.2 hp
  simp -dsimp (disch := first | assumption | omega | (simp only [AE8]; done) | (simp only [AE8]; omega)) only [↓AFe, AFa, AFc, AFd, eq_self, Nat.reduceEqDiff, ↓reduceIte, reduceCtorEq, ↓AGd]
  refine (BgG _ s _ _ hs c hc).calls rfl fun r hr => ?_
  subst hr
  simp -dsimp (disch := first | assumption | omega | (simp only [AE8]; done) | (simp only [AE8]; omega)) only [↓AFe, AFa, AFc, AFd, eq_self, forall_const, Nat.reduceEqDiff, ↓reduceIte, reduceCtorEq, ↓AGd]
  exact ⟨fun n h => h.elim, m, rfl⟩
end Go.Proofs.YtliaddbbmnfioaaGreatDoor


namespace Go.Proofs.YtliaddbbmnfioaaGreatDoor
open Go.RowKit
variable [AFG]
set_option linter.unusedSectionVars false
set_option linter.unusedVariables false

set_option maxHeartbeats 2000000 in
set_option maxRecDepth 100000 in
theorem A0Z (a : Addr) (n c : Nat) (xs : List Int) (cv : Int) (w : World) (hx : xs.length = n) (hc : ∀ i, i < n → w.cell? (a.add i) = some (.int .u8 (xs.getD i 0))) :
  Calls Tryz.prog 146 #[.slice (some a) n c, .int .u8 cv] w fun e w' => e = .returned (.int .i64 (Lib.indexByte (Lib.bytesOf xs) cv.toNat.toUInt8)) ∧ w' = w := by
 go_enter Tryz.func146, Tryz.ntmps146
 go_wp2
 rw [run_callFunc_extern Tryz.func171 (by kernel_rfl) (by kernel_rfl) (by kernel_rfl) (e := Extern.BytealgIndexByte.indexByte) (by kernel_rfl), Lib.run_indexByteAt w a n c xs hx hc cv]
 simp only [Result.andThen]
 rw [Oper.upon_value]
 go_wp2
 go_ret
 exact ⟨rfl, rfl⟩
set_option maxHeartbeats 2000000 in
set_option maxRecDepth 100000 in
theorem A4Z (n c : Nat) (cv : Int) (w : World) :
  Calls Tryz.prog 146 #[.slice none n c, .int .u8 cv] w fun e w' => e = .returned (.int .i64 (-1)) ∧ w' = w := by
 go_enter Tryz.func146, Tryz.ntmps146
 go_wp2
 rw [run_callFunc_extern Tryz.func171 (by kernel_rfl) (by kernel_rfl) (by kernel_rfl) (e := Extern.BytealgIndexByte.indexByte) (by kernel_rfl), Lib.run_indexByteNil w n c cv]
 simp only [Result.andThen]
 rw [Oper.upon_value]
 go_wp2
 go_ret
 exact ⟨rfl, rfl⟩

theorem AFE.indexByte (l : List UInt8) (c : UInt8) : AFE Tryz.prog 146 [slB l, by8 c] (fun x => x = .val (.int .i64 (Lib.indexByte l c))) := by
 intro β F w vs hF hv
 obtain ⟨v, us, rfl, h1, hv⟩ := AF9.cons.1 hv
 obtain ⟨v2, us, rfl, h2, hv⟩ := AF9.cons.1 hv
 rw [AF9.nil] at hv; subst hv
 have h2' : v2 = .int .u8 c.toNat := by
  have := Rep.val.1 (Or.inl h2 : Rep _ _ _ _); exact this
 subst h2'
 have hcv : ((c.toNat : Int)).toNat.toUInt8 = c := by
  rw [Int.toNat_natCast]; simp
 have fin : ∀ e w', (e = Ending.returned (.int .i64 (Lib.indexByte l c)) ∧ w' = w) → ∃ v x F', e = .returned v ∧ x = .val (.int .i64 (Lib.indexByte l c)) ∧ Rep ⟨β, [], F'⟩ w' x v ∧ ATn F w F' w' := by
  rintro e w' ⟨rfl, rfl⟩
  exact ⟨_, _, F, rfl, rfl, Rep.of_val, ⟨rfl, rfl, rfl, Nat.le_refl _, fun _ _ => rfl, fun _ h => h, fun _ _ h => h, hF.1⟩⟩
 have hr0 : Rep ⟨β, [], F⟩ w (slB l) v := Or.inl h1
 have hr := hr0.sl
 obtain ⟨hw, hr⟩ := hr
 rcases hr with ⟨he, ad, cap, rfl, _⟩ | ⟨b, off, cap, us, rfl, h3, h4, h5, h6, h7⟩
 ·have hl : l = [] := by simpa using he
  subst hl
  cases ad with
  | none => exact (A4Z 0 cap _ w).mono fun e w' h => fin e w' h
  | some ad =>
   refine (A0Z ad 0 cap [] c.toNat w rfl (fun i hi => by omega)).mono fun e w' h => fin e w' ?_
   exact h
 ·have hb := AMu (fun y hy => by obtain ⟨b, _, rfl⟩ := List.mem_map.1 hy; exact AYN b) h6
  rw [AVB] at hb
  refine (A0Z ⟨b, off, none⟩ (l.map by8).length cap (l.map fun b : UInt8 => (b.toNat : Int)) c.toNat w (by simp) (fun i hi => ?_)).mono fun e w' h => fin e w' ?_
  ·rw [AHj]
   have hi' : i < l.length := by simpa using hi
   refine h7 i _ ?_
   rw [hb, List.getElem?_map, List.getElem?_eq_getElem hi', List.getD_eq_getElem?_getD, List.getElem?_map, List.getElem?_eq_getElem hi']
   rfl
  ·rw [hcv] at h
   have : Lib.bytesOf (l.map fun b : UInt8 => (b.toNat : Int)) = l := by
    simp [Lib.bytesOf, List.map_map, Function.comp_def]
   rw [this] at h; exact h
end Go.Proofs.YtliaddbbmnfioaaGreatDoor


namespace Go.Proofs.YtliaddbbmnfioaaGreatDoor
open Go.RowKit
variable [AFG]
set_option linter.unusedSectionVars false
set_option linter.unusedVariables false
set_option linter.unusedSimpArgs false

/-- Where a byte stands first. -/
def AQb (c : UInt8) : List UInt8 → Option Nat
 | [] => none
 | b :: l => if b = c then some 0 else (AQb c l).map (· + 1)
theorem AVA {c : UInt8} : ∀ {l : List UInt8} {i : Nat}, AQb c l = some i → i < l.length ∧ l[i]? = some c ∧ ¬ c ∈ l.take i
 | [], i, h => by cases h
 | b :: l, i, h => by
  rw [AQb] at h
  split at h
  ·rename_i e; cases h; exact ⟨by simp, by simp [e], by simp⟩
  ·rename_i e
   obtain ⟨j, hj, rfl⟩ := Option.map_eq_some_iff.1 h
   obtain ⟨h1, h2, h3⟩ := AVA hj
   exact ⟨by simp; omega, by simpa using h2, by simp [h3, Ne.symm e]⟩
theorem A34 {c : UInt8} : ∀ {l : List UInt8}, AQb c l = none → ¬ c ∈ l
 | [], h => by simp
 | b :: l, h => by
  rw [AQb] at h
  split at h
  ·cases h
  ·rename_i e
   have := A34 (Option.map_eq_none_iff.1 h)
   simp [this, Ne.symm e]
theorem A4k (c : UInt8) : ∀ l : List UInt8, Lib.indexByte l c = (match AQb c l with | some i => (i : Int) | none => -1) := by
 intro l
 induction l with
 | nil => rfl
 | cons b l ih =>
  rw [Lib.indexByte, AQb]
  by_cases e : b = c
  ·simp [e]
  ·rw [if_neg (by simpa using e), if_neg e, ih]
   cases hc : AQb c l with
   | none => simp
   | some i =>
    have : ¬ ((i : Int) == -1) = true := by simp
    simp only [Option.map_some]
    rw [if_neg this]; rfl
theorem BkD (s : List UInt8) (c : UInt8) (hs : s.length ≤ 1000000) : AFE Tryz.prog 122 [slB s, slB [c]] (fun r => r = i64 (Lib.indexByte s c)) := by
 refine AFk.toPureV (A3p (by simp) ?_)
 simp -dsimp (disch := first | assumption | omega | (simp only [AE8]; done) | (simp only [AE8]; omega)) only [↓AFe, AFa, AFc, AFd, eq_self, Nat.reduceEqDiff, ↓reduceIte, Nat.reduceAdd, reduceCtorEq, ↓AY7]
 refine (AFE.indexByte s c).calls rfl fun r hr => ?_
 subst hr
 simp -dsimp (disch := first | assumption | omega | (simp only [AE8]; done) | (simp only [AE8]; omega)) only [↓AFe, AFa, AFc, AFd, eq_self, ↓reduceIte, ↓AY7]
theorem AGw {k : Int} {s : List UInt8} : AGS k = some s ↔ (k = 1 ∧ s = [99, 111, 109, 109, 105, 116]) ∨ (k = 2 ∧ s = [116, 114, 101, 101]) ∨ (k = 3 ∧ s = [98, 108, 111, 98]) ∨ (k = 4 ∧ s = [116, 97, 103]) := by
 unfold AGS
 constructor
 ·intro h
  split at h
  ·cases h; exact .inl ⟨by assumption, rfl⟩
  ·split at h
   ·cases h; exact .inr (.inl ⟨by assumption, rfl⟩)
   ·split at h
    ·cases h; exact .inr (.inr (.inl ⟨by assumption, rfl⟩))
    ·split at h
     ·cases h; exact .inr (.inr (.inr ⟨by assumption, rfl⟩))
     ·cases h
 ·rintro (⟨rfl, rfl⟩ | ⟨rfl, rfl⟩ | ⟨rfl, rfl⟩ | ⟨rfl, rfl⟩) <;> rfl
theorem Bic [AFq] (s : List UInt8) : AFE Tryz.prog 73 [ts s] (fun r => (∀ k, AGS k = some s → r = .tup [i64 k, tb true]) ∧ ((∀ k, AGS k ≠ some s) → r = .tup [i64 ((0 : Nat) : Int), tb false])) := by
 refine AFk.toPureV (A1O (by simp) ?_)
 have hk := AFq.k
 simp -dsimp (disch := first | assumption | omega | (simp only [AE8]; done) | (simp only [AE8]; omega)) only [↓AFe, AFa, AFc, AFd, eq_self, Nat.reduceEqDiff, ↓reduceIte, reduceCtorEq, ↓AF5, hk, A8u]
 clear hk
 refine AI0 (fun q e H => ∃ i : Nat, q = 5 - i ∧ i ≤ 5 ∧ (∀ k : Int, k < i → AGS k ≠ some s) ∧ H = [] ∧
  e = [(0, ts s), (6, .arr 5 1 [ts [], ts [99, 111, 109, 109, 105, 116], ts [116, 114, 101, 101], ts [98, 108, 111, 98], ts [116, 97, 103]]), (7, i64 (i : Int))]) 5 ?_ ?_
 ·exact ⟨0, rfl, by omega, fun k hk h => by rw [AGw] at h; omega, rfl, rfl⟩
 ·rintro q e H ⟨i, rfl, hi, hno, rfl, rfl⟩
  have next : ∀ j : Int, (∀ k : Int, k < j → AGS k ≠ some s) → AGS j ≠ some s → ∀ k : Int, k < j + 1 → AGS k ≠ some s := fun j h1 h2 k hk => by
   by_cases e : k = j
   ·subst e; exact h2
   ·exact h1 k (by omega)
  obtain h | h | h | h | h | h : i = 0 ∨ i = 1 ∨ i = 2 ∨ i = 3 ∨ i = 4 ∨ i = 5 := by omega
  ·subst h
   by_cases e0 : ([] : List UInt8) = s
   ·subst e0
    simp -dsimp (disch := first | assumption | omega | (simp only [AE8]; done) | (simp only [AE8]; omega)) only [↓AFe, AFa, AFc, AFd, eq_self, Nat.reduceLT, Nat.reduceEqDiff, ↓reduceIte, reduceCtorEq, ↓AF5]
    exact AFO 4 (by omega) (by simp) ⟨1, rfl, by omega, next 0 hno (by rw [Ne, AGw]; omega), rfl, by simp [forget, get]⟩
   ·simp -dsimp (disch := first | assumption | omega | (simp only [AE8]; done) | (simp only [AE8]; omega)) only [↓AFe, AFa, AFc, AFd, eq_self, Nat.reduceLT, Nat.reduceEqDiff, ↓reduceIte, reduceCtorEq, ↓AF5, e0]
    exact AFO 4 (by omega) (by simp) ⟨1, rfl, by omega, next 0 hno (by rw [Ne, AGw]; omega), rfl, by simp [forget, get]⟩
  ·subst h
   by_cases e0 : ([99, 111, 109, 109, 105, 116] : List UInt8) = s
   ·subst e0
    simp -dsimp (disch := first | assumption | omega | (simp only [AE8]; done) | (simp only [AE8]; omega)) only [↓AFe, AFa, AFc, AFd, eq_self, Nat.reduceLT, Nat.reduceEqDiff, ↓reduceIte, reduceCtorEq, ↓AF5]
    exact ⟨fun k h => (by rw [AGw] at h; simp at h; rw [h]; rfl), fun h => absurd (AGw.2 (by simp)) (h 1)⟩
   ·simp -dsimp (disch := first | assumption | omega | (simp only [AE8]; done) | (simp only [AE8]; omega)) only [↓AFe, AFa, AFc, AFd, eq_self, Nat.reduceLT, Nat.reduceEqDiff, Nat.reduceSub, ↓reduceIte, Nat.reduceAdd, reduceCtorEq, ↓AF5, e0]
    exact AFO 3 (by omega) (by simp) ⟨2, rfl, by omega, next 1 hno (by rw [Ne, AGw]; rintro (h | h | h | h) <;> first | omega | exact e0 h.2.symm), rfl, by simp [forget, get]⟩
  ·subst h
   by_cases e0 : ([116, 114, 101, 101] : List UInt8) = s
   ·subst e0
    simp -dsimp (disch := first | assumption | omega | (simp only [AE8]; done) | (simp only [AE8]; omega)) only [↓AFe, AFa, AFc, AFd, eq_self, Nat.reduceLT, Nat.reduceEqDiff, ↓reduceIte, reduceCtorEq, ↓AF5]
    exact ⟨fun k h => (by rw [AGw] at h; simp at h; rw [h]; rfl), fun h => absurd (AGw.2 (by simp)) (h 2)⟩
   ·simp -dsimp (disch := first | assumption | omega | (simp only [AE8]; done) | (simp only [AE8]; omega)) only [↓AFe, AFa, AFc, AFd, eq_self, Nat.reduceLT, Nat.reduceEqDiff, Nat.reduceSub, ↓reduceIte, Nat.reduceAdd, reduceCtorEq, ↓AF5, e0]
    exact AFO 2 (by omega) (by simp) ⟨3, rfl, by omega, next 2 hno (by rw [Ne, AGw]; rintro (h | h | h | h) <;> first | omega | exact e0 h.2.symm), rfl, by simp [forget, get]⟩
  ·subst h
   by_cases e0 : ([98, 108, 111, 98] : List UInt8) = s
   ·subst e0
    simp -dsimp (disch := first | assumption | omega | (simp only [AE8]; done) | (simp only [AE8]; omega)) only [↓AFe, AFa, AFc, AFd, eq_self, Nat.reduceLT, Nat.reduceEqDiff, ↓reduceIte, reduceCtorEq, ↓AF5]
    exact ⟨fun k h => (by rw [AGw] at h; simp at h; rw [h]; rfl), fun h => absurd (AGw.2 (by simp)) (h 3)⟩
   ·simp -dsimp (disch := first | assumption | omega | (simp only [AE8]; done) | (simp only [AE8]; omega)) only [↓AFe, AFa, AFc, AFd, eq_self, Nat.reduceLT, Nat.reduceEqDiff, Nat.reduceSub, ↓reduceIte, Nat.reduceAdd, reduceCtorEq, ↓AF5, e0]
    exact AFO 1 (by omega) (by simp) ⟨4, rfl, by omega, next 3 hno (by rw [Ne, AGw]; rintro (h | h | h | h) <;> first | omega | exact e0 h.2.symm), rfl, by simp [forget, get]⟩
  ·subst h
   by_cases e0 : ([116, 97, 103] : List UInt8) = s
   ·subst e0
    simp -dsimp (disch := first | assumption | omega | (simp only [AE8]; done) | (simp only [AE8]; omega)) only [↓AFe, AFa, AFc, AFd, eq_self, Nat.reduceLT, Nat.reduceEqDiff, ↓reduceIte, reduceCtorEq, ↓AF5]
    exact ⟨fun k h => (by rw [AGw] at h; simp at h; rw [h]; rfl), fun h => absurd (AGw.2 (by simp)) (h 4)⟩
   ·simp -dsimp (disch := first | assumption | omega | (simp only [AE8]; done) | (simp only [AE8]; omega)) only [↓AFe, AFa, AFc, AFd, eq_self, Nat.reduceLT, Nat.reduceEqDiff, Nat.reduceSub, ↓reduceIte, Nat.reduceAdd, reduceCtorEq, ↓AF5, e0]
    exact AFO 0 (by omega) (by simp) ⟨5, rfl, by omega, next 4 hno (by rw [Ne, AGw]; rintro (h | h | h | h) <;> first | omega | exact e0 h.2.symm), rfl, by simp [forget, get]⟩
  ·subst h
   simp -dsimp (disch := first | assumption | omega | (simp only [AE8]; done) | (simp only [AE8]; omega)) only [↓AFe, AFa, AFc, AFd, eq_self, Nat.reduceLT, Nat.reduceEqDiff, ↓reduceIte, reduceCtorEq, ↓AF5]
   exact ⟨fun k h => absurd h (by by_cases h5 : k < 5 <;> first | exact hno k h5 | (rw [AGw]; omega)), fun _ => by trivial⟩
section
variable [AFg] [AFp] [AFr]
/-- A number in decimal, with no 0 ahead. -/
def AOI (s : List UInt8) : Option Nat := match pU s with
 | some n => if Lib.decDigits n = s then some n else none
 | none => none
theorem Bf2 (s : List UInt8) (hs : s.length ≤ 1000000) : AFE Tryz.prog 137 [ts s] (fun r => (∀ n, AOI s = some n → r = .tup [i64 (n : Int), tb true]) ∧ (AOI s = none → ∃ z, r = .tup [i64 z, tb false])) := by
 refine AFk.toPureV (AZR (by simp) ?_)
 simp -dsimp (disch := first | assumption | omega | (simp only [AE8]; done) | (simp only [AE8]; omega)) only [↓AFe, AFa, AFc, AFd, eq_self, ↓reduceIte, reduceCtorEq, ↓ANk]
 refine (A9S s hs).calls rfl fun r hr => ?_
 cases hp : pU s with
 | none =>
  obtain ⟨m, rfl⟩ := hr.2 hp
  have hd : AOI s = none := by unfold AOI; rw [hp]
  simp -dsimp (disch := first | assumption | omega | (simp only [AE8]; done) | (simp only [AE8]; omega)) only [↓AFe, AFa, AFc, AFd, eq_self, Nat.reduceEqDiff, ↓reduceIte, reduceCtorEq, ↓ANk]
  rw [hd]
  exact ⟨fun n h => (by cases h), fun _ => ⟨_, rfl⟩⟩
 | some n =>
  rw [hr.1 n hp]
  have hn : n < 4611686018427387904 := by
   unfold pU at hp
   split at hp
   ·rename_i h; cases hp; exact h.2.2
   ·cases hp
  have hw : IntKind.i64.wrap (n : Int) = (n : Int) := AGD (by omega) (by omega)
  simp -dsimp (disch := first | assumption | omega | (simp only [AE8]; done) | (simp only [AE8]; omega)) only [↓AFe, AFa, AFc, AFd, eq_self, Nat.reduceEqDiff, ↓reduceIte, reduceCtorEq, hw]
  refine (A7u n (by omega)).calls rfl fun r hr => ?_
  subst hr
  simp -dsimp (disch := first | assumption | omega | (simp only [AE8]; done) | (simp only [AE8]; omega)) only [↓AFe, AFa, AFc, AFd, eq_self, Nat.reduceEqDiff, ↓reduceIte, reduceCtorEq, ↓ANk]
  unfold AOI
  rw [hp]
  simp only
  by_cases hs2 : Lib.decDigits n = s
  ·rw [if_pos hs2, decide_eq_true hs2]
   exact ⟨fun m h => (by cases h; rfl), fun h => (by cases h)⟩
  ·rw [if_neg hs2, decide_eq_false hs2]
   exact ⟨fun m h => (by cases h), fun _ => ⟨_, rfl⟩⟩
end
end Go.Proofs.YtliaddbbmnfioaaGreatDoor


namespace Go.Proofs.YtliaddbbmnfioaaGreatDoor
open Go.RowKit
variable [AFG]
set_option linter.unusedSectionVars false
set_option linter.unusedVariables false
set_option linter.unusedSimpArgs false

theorem AVs {k : Nat} (hk : k < 10) : AIR (UInt8.ofNat (48 + k)) = true ∧ (UInt8.ofNat (48 + k)).toNat - 48 = k := by
 have : (UInt8.ofNat (48 + k)).toNat = 48 + k := by rw [UInt8.toNat_ofNat']; omega
 unfold AIR
 rw [this]
 exact ⟨by simp; omega, by omega⟩
theorem A8L (n : Nat) (c : UInt8) : AQ2 n [c] = n * 10 + (c.toNat - 48) := rfl
theorem A4z : ∀ n : Nat, (Lib.decDigits n).all AIR = true ∧ AQ2 0 (Lib.decDigits n) = n := by
 intro n
 induction n using Nat.strongRecOn with
 | _ n ih =>
  by_cases h : n < 10
  ·obtain ⟨h1, h2⟩ := AVs h
   rw [Lib.decDigits_one h, A8L, h2, List.all_cons, h1]
   exact ⟨rfl, by omega⟩
  ·obtain ⟨h1, h2⟩ := ih (n / 10) (by omega)
   obtain ⟨h3, h4⟩ := AVs (k := n % 10) (by omega)
   rw [Lib.decDigits.eq_1 n, dif_neg h, List.all_append, APd, A8L, h1, h2, h4, List.all_cons, h3]
   exact ⟨rfl, by omega⟩
theorem A80 (n : Nat) : Lib.decDigits n ≠ [] := by
 rw [Lib.decDigits.eq_1]
 split <;> simp
theorem A9Z {n : Nat} (h : n < 4611686018427387904) : AOI (Lib.decDigits n) = some n := by
 obtain ⟨h1, h2⟩ := A4z n
 have : pU (Lib.decDigits n) = some n := by
  unfold pU
  rw [if_pos ⟨A80 n, h1, by rw [h2]; exact h⟩, h2]
 unfold AOI
 rw [this]
 simp
theorem A2o {c : UInt8} : ∀ {l m : List UInt8}, ¬ c ∈ l → AQb c (l ++ c :: m) = some l.length
 | [], m, _ => by simp [AQb]
 | b :: l, m, h => by
  rw [List.cons_append, AQb, if_neg (fun e => h (by simp [e])), A2o (fun hm => h (List.mem_cons_of_mem _ hm))]
  simp
end Go.Proofs.YtliaddbbmnfioaaGreatDoor


namespace Go.Proofs.YtliaddbbmnfioaaGreatDoor
open Go.RowKit
variable [AFG]
set_option linter.unusedSectionVars false
set_option linter.unusedVariables false
set_option linter.unusedSimpArgs false

/-- What ParseUint says: the number, or none. -/
def pV (s : List UInt8) : Option Nat := if s ≠ [] ∧ s.all AIR ∧ AQ2 0 s < 1048576 then some (AQ2 0 s) else none
/-- What the walk answers. -/
def A6Y (s : List UInt8) (r : TV) : Prop := (∀ n, pV s = some n → r = .tup [.val (.int .u64 (n : Int)), .val .nilIface]) ∧ (pV s = none → ∃ m c : Nat, m ≤ 1048575 ∧ (c = 1 ∨ c = 2) ∧ r = .tup [.val (.int .u64 (m : Int)), .ifc 228 (i64 (c : Int))])
theorem A6Y.no {s : List UInt8} (h : pV s = none) {m c : Nat} (hc : c = 1 ∨ c = 2) (hm : m ≤ 1048575 := by omega) : A6Y s (.tup [.val (.int .u64 (m : Int)), .ifc 228 (i64 (c : Int))]) :=
 ⟨fun n hn => (by rw [h] at hn; cases hn), fun _ => ⟨m, c, hm, hc, rfl⟩⟩
theorem A6Y.yes {s : List UInt8} {n : Nat} (h : pV s = some n) : A6Y s (.tup [.val (.int .u64 (n : Int)), .val .nilIface]) :=
 ⟨fun m hm => (by rw [h] at hm; cases hm; rfl), fun hn => (by rw [h] at hn; cases hn)⟩
theorem Bj3 {s : List UInt8} {i : Nat} {b : UInt8} (h : s[i]? = some b) (hb : AIR b = false) : pV s = none := by
 unfold pV
 rw [if_neg]
 rintro ⟨_, h2, _⟩
 have := List.all_eq_true.1 h2 b (List.mem_of_getElem? h)
 rw [hb] at this; cases this
theorem Bk4 {s : List UInt8} {i : Nat} (h : 1048576 ≤ AQ2 0 (s.take i)) : pV s = none := by
 unfold pV
 rw [if_neg]
 rintro ⟨_, _, h3⟩
 have : AQ2 0 s = AQ2 (AQ2 0 (s.take i)) (s.drop i) := by rw [← APd, List.take_append_drop]
 have h4 := A7I (s.drop i) (AQ2 0 (s.take i))
 omega
theorem Bjz (s : List UInt8) (hs : s.length ≤ 1000000) : AFE Tryz.prog 123 [ts s, i64 ((10 : Nat) : Int), i64 ((20 : Nat) : Int)] (A6Y s) := by
 refine AFk.toPureV (AIM (by simp) ?_)
 by_cases h0 : s = []
 ·subst h0
  have hn : pV [] = none := by unfold pV; simp
  simp -dsimp (disch := first | assumption | omega | (simp only [AE8]; done) | (simp only [AE8]; omega)) only [↓AFe, AFa, AFc, AFd, eq_self, Nat.reduceEqDiff, ↓reduceIte, Nat.reduceAdd, reduceCtorEq, ↓AGj, ↓AF6, ↓AFf]
  exact A6Y.no hn (.inr rfl)
 have hw1 : IntKind.u64.wrap ((20 : Nat) : Int) = ((20 : Nat) : Int) := ASH (by omega)
 simp -dsimp (disch := first | assumption | omega | (simp only [AE8]; done) | (simp only [AE8]; omega)) only [↓AFe, AFa, AFc, AFd, eq_self, Nat.reduceLT, Nat.reduceEqDiff, ↓reduceIte, Nat.reduceAdd, reduceCtorEq, Nat.reduceLeDiff, ↓AGj, ↓AF6, h0, ↓AHq, ↓AHG, ↓AHy, ↓AHw, ↓AHC, ↓AHD]
 simp -dsimp (disch := first | assumption | omega | (simp only [AE8]; done) | (simp only [AE8]; omega)) only [↓AFe, AFa, AFc, AFd, eq_self, Nat.reduceEqDiff, Nat.reduceSub, Nat.reduceMul, Nat.reducePow, ↓reduceIte, reduceCtorEq, ↓AHo, ↓AHv, ↓AHL, hw1, A8X, A81, ↓AHu, ↓AHs, ↓AHr, AFi, ↓AHJ]
 refine AI0 (fun q e H => ∃ (i n : Nat), q = s.length - i ∧ i ≤ s.length ∧ (s.take i).all AIR = true ∧ n = AQ2 0 (s.take i) ∧ n < 1048576 ∧ H = [.obj 0 (.arr s.length 1 (s.map by8))] ∧
  e = [(1, i64 ((10 : Nat) : Int)), (8, tb false), (9, ts s), (10, .val (.int .u64 ((1844674407370955162 : Nat) : Int))), (11, .val (.int .u64 ((1048575 : Nat) : Int))), (12, tb false), (13, .val (.int .u64 (n : Int))), (99, .os 1 0 0 [] 0 s.length s.length), (100, i64 (s.length : Int)), (101, i64 (i : Int))]) s.length ?_ ?_
 ·refine ⟨0, 0, ?_, Nat.zero_le _, ?_, ?_, ?_, ?_, ?_⟩
  ·simp
  ·rw [List.take_zero]; rfl
  ·rw [List.take_zero]; rfl
  ·omega
  ·simp
  ·simp [forget, get]
 ·rintro q e H ⟨i, n, rfl, hi, hall, hn, hnl, rfl, rfl⟩
  by_cases c : i < s.length
  ·have hg : s[i]? = some s[i] := List.getElem?_eq_getElem c
   have hsucc := List.take_succ_eq_append_getElem c
   generalize s[i] = b at *
   have hb := b.toNat_lt
   have hnum : AQ2 0 (s.take (i + 1)) = n * 10 + (b.toNat - 48) := by rw [hsucc, APd, ← hn]; rfl
   have hw10 : IntKind.u8.wrap ((10 : Nat) : Int) = ((10 : Nat) : Int) := by decide
   have hw10' : IntKind.u64.wrap ((10 : Nat) : Int) = ((10 : Nat) : Int) := by decide
   by_cases hd : 48 ≤ b.toNat ∧ b.toNat ≤ 57
   ·have hisd : AIR b = true := by unfold AIR; simp [hd]
    have h95 : ¬ b.toNat = 95 := by omega
    have hwd : IntKind.u64.wrap ((b.toNat - 48 : Nat) : Int) = ((b.toNat - 48 : Nat) : Int) := ASH (by omega)
    by_cases hc : 1844674407370955162 ≤ n
    ·exact absurd hc (by omega)
    ·have hnl2 := hnl
     clear hnl
     have hn10 : n * 10 < 18446744073709551616 := by omega
     have hadd : ∀ t, AHA t .add (.int .u64 ((n * 10 : Nat) : Int)) (.int .u64 ((b.toNat - 48 : Nat) : Int)) = some (.int .u64 (((n * 10 + (b.toNat - 48)) % 18446744073709551616 : Nat) : Int)) := fun t => by
      rw [show AHA t .add (.int .u64 ((n * 10 : Nat) : Int)) (.int .u64 ((b.toNat - 48 : Nat) : Int)) = some (.int .u64 (IntKind.u64.wrap (((n * 10 : Nat) : Int) + ((b.toNat - 48 : Nat) : Int)))) from rfl, IntKind.wrap_u64]
      congr 2
     simp -dsimp (disch := first | assumption | omega | (simp only [AE8]; done) | (simp only [AE8]; omega)) only [↓AFe, AFa, AFc, AFd, eq_self, Nat.reduceEqDiff, ↓reduceIte, ↓AFn, ↓AFl, ↓AFB, hg, ↓AFw, ↓AFz, h95, ↓AFx, ↓AFA, ↓AFm, ATG, ↓AFy, hw10, ↓AGt, ↓AHF, hw10', A4x, ↓AHH, hwd, hadd, ↓AHx]
     by_cases hbig : 1048576 ≤ n * 10 + (b.toNat - 48)
     ·have hno := Bk4 (s := s) (i := i + 1) (by rw [hnum]; exact hbig)
      by_cases hwr : (n * 10 + (b.toNat - 48)) % 18446744073709551616 < n * 10
      ·simp -dsimp (disch := first | assumption | omega | (simp only [AE8]; done) | (simp only [AE8]; omega)) only [↓AFe, AFa, AFc, AFd, eq_self, Nat.reduceEqDiff, ↓reduceIte, ↓AFf]
       exact A6Y.no hno (.inl rfl)
      ·have hgt : (n * 10 + (b.toNat - 48)) % 18446744073709551616 > 1048575 := by omega
       simp -dsimp (disch := first | assumption | omega | (simp only [AE8]; done) | (simp only [AE8]; omega)) only [↓AFe, AFa, AFc, AFd, eq_self, Nat.reduceEqDiff, ↓reduceIte, ↓AFf]
       exact A6Y.no hno (.inl rfl)
     ·have hmod : (n * 10 + (b.toNat - 48)) % 18446744073709551616 = n * 10 + (b.toNat - 48) := Nat.mod_eq_of_lt (by omega)
      rw [hmod]
      simp -dsimp (disch := first | assumption | omega | (simp only [AE8]; done) | (simp only [AE8]; omega)) only [↓AFe, AFa, AFc, AFd, eq_self, Nat.reduceEqDiff, ↓reduceIte]
      exact AFO (s.length - (i + 1)) (by omega) (by simp) ⟨i + 1, n * 10 + (b.toNat - 48), rfl, by omega, by rw [hsucc, List.all_append, hall]; simp [hisd], hnum.symm, by omega, rfl, by simp [forget, get]⟩
   ·have hno := Bj3 hg (show AIR b = false by unfold AIR; simp; omega)
    by_cases h95 : b.toNat = 95
    ·have hor : (b.toNat ||| 32) = 127 := by rw [h95]; rfl
     simp -dsimp (disch := first | assumption | omega | (simp only [AE8]; done) | (simp only [AE8]; omega)) only [↓AFe, AFa, AFc, AFd, eq_self, Nat.reduceEqDiff, ↓reduceIte, Nat.reduceLeDiff, ↓AFn, ↓AFl, ↓AFB, hg, ↓AFw, ↓AFz, h95, ↓AFx, ↓AFA, ↓AFm, ↓AFD]
     refine (ATs b).calls rfl fun r hr => ?_
     subst hr
     rw [hor]
     simp -dsimp (disch := first | assumption | omega | (simp only [AE8]; done) | (simp only [AE8]; omega)) only [↓AFe, AFa, AFc, AFd, eq_self, Nat.reduceEqDiff, ↓reduceIte, Nat.reduceLeDiff]
     refine (ATs b).calls rfl fun r hr => ?_
     subst hr
     rw [hor]
     simp -dsimp (disch := first | assumption | omega | (simp only [AE8]; done) | (simp only [AE8]; omega)) only [↓AFe, AFa, AFc, AFd, eq_self, Nat.reduceEqDiff, ↓reduceIte, Nat.reduceLeDiff, ↓AFf]
     exact A6Y.no hno (.inr rfl)
    ·have hl := Bpm b.toNat hb hd
     simp -dsimp (disch := first | assumption | omega | (simp only [AE8]; done) | (simp only [AE8]; omega)) only [↓AFe, AFa, AFc, AFd, eq_self, Nat.reduceEqDiff, ↓reduceIte, ↓AFn, ↓AFl, ↓AFB, hg, ↓AFw, ↓AFz, h95, ↓AFx, ↓AFA]
     by_cases c48 : 48 ≤ b.toNat
     ·have c57 : ¬ b.toNat ≤ 57 := by omega
      simp -dsimp (disch := first | assumption | omega | (simp only [AE8]; done) | (simp only [AE8]; omega)) only [↓AFe, AFa, AFc, AFd, eq_self, Nat.reduceEqDiff, ↓reduceIte, ↓AFm, ↓AFD]
      refine (ATs b).calls rfl fun r hr => ?_
      subst hr
      have hlw := ATs b
      generalize b.toNat ||| 32 = x at *
      by_cases c97 : 97 ≤ x
      ·simp -dsimp (disch := first | assumption | omega | (simp only [AE8]; done) | (simp only [AE8]; omega)) only [↓AFe, AFa, AFc, AFd, eq_self, Nat.reduceEqDiff, ↓reduceIte]
       refine hlw.calls rfl fun r hr => ?_
       subst hr
       by_cases c122 : x ≤ 122
       ·have h10 := hl c97 c122
        have hmod : (x - 97 + 10) % 256 = x - 97 + 10 := Nat.mod_eq_of_lt (by omega)
        simp -dsimp (disch := first | assumption | omega | (simp only [AE8]; done) | (simp only [AE8]; omega)) only [↓AFe, AFa, AFc, AFd, eq_self, Nat.reduceEqDiff, ↓reduceIte]
        refine hlw.calls rfl fun r hr => ?_
        subst hr
        simp -dsimp (disch := first | assumption | omega | (simp only [AE8]; done) | (simp only [AE8]; omega)) only [↓AFe, AFa, AFc, AFd, eq_self, Nat.reduceEqDiff, ↓reduceIte, Nat.reduceLeDiff, ATG, A1h, hmod, ↓AFy, hw10, ↓AFf]
        exact A6Y.no hno (.inr rfl)
       ·simp -dsimp (disch := first | assumption | omega | (simp only [AE8]; done) | (simp only [AE8]; omega)) only [↓AFe, AFa, AFc, AFd, eq_self, Nat.reduceEqDiff, ↓reduceIte, ↓AFf]
        exact A6Y.no hno (.inr rfl)
      ·simp -dsimp (disch := first | assumption | omega | (simp only [AE8]; done) | (simp only [AE8]; omega)) only [↓AFe, AFa, AFc, AFd, eq_self, Nat.reduceEqDiff, ↓reduceIte, ↓AFf]
       exact A6Y.no hno (.inr rfl)
     ·simp -dsimp (disch := first | assumption | omega | (simp only [AE8]; done) | (simp only [AE8]; omega)) only [↓AFe, AFa, AFc, AFd, eq_self, Nat.reduceEqDiff, ↓reduceIte, ↓AFm, ↓AFD]
      refine (ATs b).calls rfl fun r hr => ?_
      subst hr
      have hlw := ATs b
      generalize b.toNat ||| 32 = x at *
      by_cases c97 : 97 ≤ x
      ·simp -dsimp (disch := first | assumption | omega | (simp only [AE8]; done) | (simp only [AE8]; omega)) only [↓AFe, AFa, AFc, AFd, eq_self, Nat.reduceEqDiff, ↓reduceIte]
       refine hlw.calls rfl fun r hr => ?_
       subst hr
       by_cases c122 : x ≤ 122
       ·have h10 := hl c97 c122
        have hmod : (x - 97 + 10) % 256 = x - 97 + 10 := Nat.mod_eq_of_lt (by omega)
        simp -dsimp (disch := first | assumption | omega | (simp only [AE8]; done) | (simp only [AE8]; omega)) only [↓AFe, AFa, AFc, AFd, eq_self, Nat.reduceEqDiff, ↓reduceIte]
        refine hlw.calls rfl fun r hr => ?_
        subst hr
        simp -dsimp (disch := first | assumption | omega | (simp only [AE8]; done) | (simp only [AE8]; omega)) only [↓AFe, AFa, AFc, AFd, eq_self, Nat.reduceEqDiff, ↓reduceIte, Nat.reduceLeDiff, ATG, A1h, hmod, ↓AFy, hw10, ↓AFf]
        exact A6Y.no hno (.inr rfl)
       ·simp -dsimp (disch := first | assumption | omega | (simp only [AE8]; done) | (simp only [AE8]; omega)) only [↓AFe, AFa, AFc, AFd, eq_self, Nat.reduceEqDiff, ↓reduceIte, ↓AFf]
        exact A6Y.no hno (.inr rfl)
      ·simp -dsimp (disch := first | assumption | omega | (simp only [AE8]; done) | (simp only [AE8]; omega)) only [↓AFe, AFa, AFc, AFd, eq_self, Nat.reduceEqDiff, ↓reduceIte, ↓AFf]
       exact A6Y.no hno (.inr rfl)
  ·have hi2 : i = s.length := by omega
   subst hi2
   rw [List.take_length] at hn hall
   have hyes : pV s = some n := by unfold pV; rw [if_pos ⟨h0, hall, by rw [← hn]; exact hnl⟩, hn]
   simp -dsimp (disch := first | assumption | omega | (simp only [AE8]; done) | (simp only [AE8]; omega)) only [↓AFe, AFa, AFc, AFd, eq_self, Nat.reduceEqDiff, ↓reduceIte, ↓AFn, ↓AFl, ↓AHp, ↓AFf]
   exact A6Y.yes hyes
variable [AFp] [AFr]
/-- The number, or an error. -/
theorem A59 (s : List UInt8) (hs : s.length ≤ 1000000) : AFE Tryz.prog 89 [ts s, i64 ((10 : Nat) : Int), i64 ((20 : Nat) : Int)] (fun r => (∀ n, pV s = some n → r = .tup [.val (.int .u64 (n : Int)), .val .nilIface]) ∧ (pV s = none → ∃ m : Nat, m ≤ 1048575 ∧ r = .tup [.val (.int .u64 (m : Int)), .ifc 229 .any])) := by
 refine AFk.toPureV (AN4 (by simp) ?_)
 simp -dsimp (disch := first | assumption | omega | (simp only [AE8]; done) | (simp only [AE8]; omega)) only [↓AFe, AFa, AFc, AFd, eq_self, Nat.reduceEqDiff, ↓reduceIte, Nat.reduceAdd, reduceCtorEq, ↓AGd]
 refine (Bjz s hs).calls rfl fun r hr => ?_
 cases hp : pV s with
 | some n =>
  rw [hr.1 n hp]
  simp -dsimp (disch := first | assumption | omega | (simp only [AE8]; done) | (simp only [AE8]; omega)) only [↓AFe, AFa, AFc, AFd, eq_self, Nat.reduceEqDiff, ↓reduceIte, reduceCtorEq, ↓AGd]
  exact ⟨fun m hm => (by cases hm; rfl), fun h => (by cases h)⟩
 | none =>
  obtain ⟨m, c, hm, hc, rfl⟩ := hr.2 hp
  simp -dsimp (disch := first | assumption | omega | (simp only [AE8]; done) | (simp only [AE8]; omega)) only [↓AFe, AFa, AFc, AFd, eq_self, Nat.reduceEqDiff, ↓reduceIte, reduceCtorEq, ↓AGd]
  refine (BgG _ s _ _ hs c hc).calls rfl fun r hr => ?_
  subst hr
  simp -dsimp (disch := first | assumption | omega | (simp only [AE8]; done) | (simp only [AE8]; omega)) only [↓AFe, AFa, AFc, AFd, eq_self, forall_const, Nat.reduceEqDiff, ↓reduceIte, reduceCtorEq, ↓AGd]
  exact ⟨fun n h => h.elim, m, hm, rfl⟩
end Go.Proofs.YtliaddbbmnfioaaGreatDoor


namespace Go.Proofs.YtliaddbbmnfioaaGreatDoor
open Go.RowKit
variable [AFG]
set_option linter.unusedSectionVars false
set_option linter.unusedVariables false
set_option linter.unusedSimpArgs false

section
omit [AFG]
structure Per where
 name : List UInt8
 mail : List UInt8
 time : Int
 zone : Int
/-- May it be a person's name? -/
def AJe (s : List UInt8) : Prop := s.length ≤ 60 ∧ (∀ c ∈ s, c ≠ 60 ∧ c ≠ 62 ∧ c ≠ 10 ∧ c ≠ 0) ∧ s[0]? ≠ some 32 ∧ s[s.length - 1]? ≠ some 32
instance (s : List UInt8) : Decidable (AJe s) := by unfold AJe; infer_instance
def AGR (p : Per) : Prop := AJe p.name ∧ AJe p.mail ∧ 0 ≤ p.time ∧ p.time ≤ 1099511627776 ∧ -840 ≤ p.zone ∧ p.zone ≤ 840
instance (p : Per) : Decidable (AGR p) := by unfold AGR; infer_instance
/-- Hours and minutes. -/
def AVX (z : Nat) : List UInt8 := [UInt8.ofNat (48 + z / 60 / 10), UInt8.ofNat (48 + z / 60 % 10), UInt8.ofNat (48 + z % 60 / 10), UInt8.ofNat (48 + z % 60 % 10)]
def AY8 (z : Int) : UInt8 := if z < 0 then 45 else 43
def AIH (p : Per) : List UInt8 := AY8 p.zone :: AVX p.zone.natAbs
def AJl (p : Per) : List UInt8 := p.name ++ ([32, 60] ++ (p.mail ++ ([62, 32] ++ (Lib.decDigits p.time.toNat ++ ([32] ++ AIH p)))))
theorem Bgr {a sep b : List UInt8} (h : ∀ j, j < a.length → Lib.occAt (a ++ (sep ++ b)) sep j = false) : Lib.cut (a ++ (sep ++ b)) sep = (a, b, true) := by
 have hi : Lib.index (a ++ (sep ++ b)) sep = (a.length : Int) := Lib.index_first (by simp) (by simp [Lib.occAt, List.isPrefixOf_iff_prefix]) h
 unfold Lib.cut
 rw [hi, if_pos (by omega)]
 simp only [Int.toNat_natCast, List.take_left]
 rw [← List.drop_drop, List.drop_left, List.drop_left]
theorem A8g {s t : List UInt8} {x : UInt8} {j : Nat} (h : Lib.occAt s (x :: t) j = true) : s[j]? = some x ∧ ∀ y r, t = y :: r → s[j + 1]? = some y := by
 rw [Lib.occAt, List.isPrefixOf_iff_prefix] at h
 obtain ⟨u, hu⟩ := h
 constructor
 ·have := congrArg (·[0]?) hu
  simpa using this.symm
 ·rintro y r rfl
  have := congrArg (·[1]?) hu
  simpa using this.symm
/-- A separator whose first byte is not in what stands ahead. -/
theorem A5u {a t b : List UInt8} {x : UInt8} (h : x ∉ a) : Lib.cut (a ++ ((x :: t) ++ b)) (x :: t) = (a, b, true) := Bgr fun j hj => by
 cases hc : Lib.occAt (a ++ ((x :: t) ++ b)) (x :: t) j with
 | false => rfl
 | true =>
 exfalso
 have := (A8g hc).1
 rw [List.getElem?_append_left hj] at this
 exact h (List.mem_of_getElem? this)
/-- One whose second byte is not in what stands ahead, nor its first one. -/
theorem A9r {a b : List UInt8} {x y : UInt8} (h : y ∉ a) (hxy : x ≠ y) : Lib.cut (a ++ ([x, y] ++ b)) [x, y] = (a, b, true) := Bgr fun j hj => by
 cases hc : Lib.occAt (a ++ ([x, y] ++ b)) [x, y] j with
 | false => rfl
 | true =>
 exfalso
 have := (A8g hc).2 y [] rfl
 by_cases hl : j + 1 < a.length
 ·rw [List.getElem?_append_left hl] at this
  exact h (List.mem_of_getElem? this)
 ·have e : j + 1 = a.length := by omega
  rw [e, List.getElem?_append_right (by omega)] at this
  simp at this
  exact hxy this
end
theorem Bbz (n : Nat) (c : UInt8) (h : c ∈ Lib.decDigits n) : 48 ≤ c.toNat ∧ c.toNat ≤ 57 := by
 have := List.all_eq_true.1 (A4z n).1 c h
 unfold AIR at this
 simpa using this
/-- What the cuts of a person's text are. -/
theorem A4p {p : Per} (h : AGR p) : Lib.cut (AJl p) [32, 60] = (p.name, p.mail ++ ([62, 32] ++ (Lib.decDigits p.time.toNat ++ ([32] ++ AIH p))), true)
  ∧ Lib.cut (p.mail ++ ([62, 32] ++ (Lib.decDigits p.time.toNat ++ ([32] ++ AIH p)))) [62, 32] = (p.mail, Lib.decDigits p.time.toNat ++ ([32] ++ AIH p), true)
  ∧ Lib.cut (Lib.decDigits p.time.toNat ++ ([32] ++ AIH p)) [32] = (Lib.decDigits p.time.toNat, AIH p, true)
  ∧ AOI (Lib.decDigits p.time.toNat) = some p.time.toNat := by
 obtain ⟨h1, h2, h3, h4, _, _⟩ := h
 refine ⟨A9r (fun hm => (h1.2.1 _ hm).1 rfl) (by decide), A5u (fun hm => (h2.2.1 _ hm).2.1 rfl), A5u (fun hm => by have := Bbz _ _ hm; simp at this), A9Z (by omega)⟩
theorem BoJ {n : Nat} (h1 : 10000 ≤ n) (h2 : n < 20000) : Lib.decDigits n = [49, UInt8.ofNat (48 + n / 1000 % 10), UInt8.ofNat (48 + n / 100 % 10), UInt8.ofNat (48 + n / 10 % 10), UInt8.ofNat (48 + n % 10)] := by
 rw [Lib.decDigits.eq_1, dif_neg (by omega), Lib.decDigits.eq_1 (n / 10), dif_neg (by omega), Lib.decDigits.eq_1 (n / 10 / 10), dif_neg (by omega), Lib.decDigits.eq_1 (n / 10 / 10 / 10), dif_neg (by omega), Lib.decDigits_one (show n / 10 / 10 / 10 / 10 < 10 by omega)]
 have e0 : n / 10 / 10 / 10 / 10 = 1 := by omega
 have e1 : n / 10 / 10 / 10 % 10 = n / 1000 % 10 := by omega
 have e2 : n / 10 / 10 % 10 = n / 100 % 10 := by omega
 rw [e0, e1, e2]
 rfl
theorem A6j {z : Nat} (h : z ≤ 840) : (Lib.decDigits (10000 + z / 60 * 100 + z % 60)).drop 1 = AVX z := by
 rw [BoJ (by omega) (by omega)]
 have e1 : (10000 + z / 60 * 100 + z % 60) / 1000 % 10 = z / 60 / 10 := by omega
 have e2 : (10000 + z / 60 * 100 + z % 60) / 100 % 10 = z / 60 % 10 := by omega
 have e3 : (10000 + z / 60 * 100 + z % 60) / 10 % 10 = z % 60 / 10 := by omega
 have e4 : (10000 + z / 60 * 100 + z % 60) % 10 = z % 60 % 10 := by omega
 rw [e1, e2, e3, e4]
 rfl
theorem Ben {a b c d : Nat} (ha : a < 10) (hb : b < 10) (hc : c < 10) (hd : d < 10) : ([UInt8.ofNat (48 + a), UInt8.ofNat (48 + b), UInt8.ofNat (48 + c), UInt8.ofNat (48 + d)] : List UInt8).all AIR = true ∧ AQ2 0 [UInt8.ofNat (48 + a), UInt8.ofNat (48 + b), UInt8.ofNat (48 + c), UInt8.ofNat (48 + d)] = a * 1000 + b * 100 + c * 10 + d := by
 obtain ⟨a1, a2⟩ := AVs ha
 obtain ⟨b1, b2⟩ := AVs hb
 obtain ⟨c1, c2⟩ := AVs hc
 obtain ⟨d1, d2⟩ := AVs hd
 generalize UInt8.ofNat (48 + a) = x at *
 generalize UInt8.ofNat (48 + b) = y at *
 generalize UInt8.ofNat (48 + c) = u at *
 generalize UInt8.ofNat (48 + d) = v at *
 constructor
 ·simp [a1, b1, c1, d1]
 ·have e : AQ2 0 [x, y, u, v] = (((0 * 10 + (x.toNat - 48)) * 10 + (y.toNat - 48)) * 10 + (u.toNat - 48)) * 10 + (v.toNat - 48) := rfl
  rw [e, a2, b2, c2, d2]
  omega
theorem A4H {z : Nat} (h : z ≤ 840) : pV (AVX z) = some (z / 60 * 100 + z % 60) := by
 obtain ⟨h1, h2⟩ := Ben (a := z / 60 / 10) (b := z / 60 % 10) (c := z % 60 / 10) (d := z % 60 % 10) (by omega) (by omega) (by omega) (by omega)
 have e : z / 60 / 10 * 1000 + z / 60 % 10 * 100 + z % 60 / 10 * 10 + z % 60 % 10 = z / 60 * 100 + z % 60 := by omega
 rw [e] at h2
 unfold AVX
 have hl : [UInt8.ofNat (48 + z / 60 / 10), UInt8.ofNat (48 + z / 60 % 10), UInt8.ofNat (48 + z % 60 / 10), UInt8.ofNat (48 + z % 60 % 10)] ≠ [] := List.cons_ne_nil _ _
 generalize [UInt8.ofNat (48 + z / 60 / 10), UInt8.ofNat (48 + z / 60 % 10), UInt8.ofNat (48 + z % 60 / 10), UInt8.ofNat (48 + z % 60 % 10)] = l at *
 unfold pV
 rw [if_pos ⟨hl, h1, by rw [h2]; omega⟩, h2]
theorem A2R {z : Nat} : (z / 60 * 100 + z % 60) / 100 * 60 + (z / 60 * 100 + z % 60) % 100 = z := by omega
theorem AU2 (z : Nat) : (AVX z).length = 4 := rfl
theorem BhB {c : UInt8} : ∀ {l : List UInt8}, l.dropWhile (· == c) = l ↔ l[0]? ≠ some c
 | [] => by simp
 | b :: l => by
  by_cases e : b = c
  ·subst e
   simp
   intro h
   have := congrArg List.length h
   have h2 := (List.dropWhile_sublist (· == b) (l := l)).length_le
   simp at this
   omega
  ·simp [e]
theorem BbU {c : UInt8} {l : List UInt8} (h : (l.dropWhile (· == c)).length = l.length) : l.dropWhile (· == c) = l :=
 (List.dropWhile_sublist _).eq_of_length h
/-- Nothing to trim. -/
theorem BaR {c : UInt8} {l : List UInt8} : Lib.trimB l c = l ↔ l[0]? ≠ some c ∧ l[l.length - 1]? ≠ some c := by
 have hr : l.reverse.dropWhile (· == c) = l.reverse ↔ l[l.length - 1]? ≠ some c := by
  rw [BhB]
  cases l with
  | nil => simp
  | cons b l => rw [List.getElem?_reverse (by simp)]; simp
 unfold Lib.trimB Lib.trimLeftB Lib.trimRightB
 constructor
 ·intro h
  have h1 := (List.dropWhile_sublist (· == c) (l := (l.reverse.dropWhile (· == c)).reverse)).length_le
  have h2 := (List.dropWhile_sublist (· == c) (l := l.reverse)).length_le
  have h3 := congrArg List.length h
  simp at h1 h2 h3
  have h4 := hr.1 (BbU (by simp; omega))
  rw [(hr.2 h4), List.reverse_reverse] at h
  exact ⟨BhB.1 h, h4⟩
 ·rintro ⟨h1, h2⟩
  rw [hr.2 h2, List.reverse_reverse, BhB.2 h1]
end Go.Proofs.YtliaddbbmnfioaaGreatDoor


namespace Go.Proofs.YtliaddbbmnfioaaGreatDoor
open Go.RowKit
variable [AFG]
set_option linter.unusedSectionVars false
set_option linter.unusedVariables false
set_option linter.unusedSimpArgs false

/-- The first line, if it is of this word: its value, and what follows. -/
def AY4 (w s : List UInt8) : Option (List UInt8 × List UInt8) := match AQb 10 s with
 | none => none
 | some i => if (w ++ [32]).isPrefixOf (s.take i) then some ((s.take i).drop (w.length + 1), s.drop (i + 1)) else none
theorem Bcc {w v r : List UInt8} (hw : 10 ∉ w) (hv : 10 ∉ v) : AY4 w (w ++ 32 :: (v ++ 10 :: r)) = some (v, r) := by
 have e : w ++ 32 :: (v ++ 10 :: r) = (w ++ 32 :: v) ++ 10 :: r := by simp
 have hc : AQb 10 ((w ++ 32 :: v) ++ 10 :: r) = some (w ++ 32 :: v).length := A2o (by simp [hw, hv])
 unfold AY4
 rw [e, hc]
 simp only [List.take_left]
 rw [if_pos (by rw [List.isPrefixOf_iff_prefix]; exact ⟨v, by simp⟩)]
 congr 1
 refine Prod.ext ?_ ?_
 ·show (w ++ 32 :: v).drop (w.length + 1) = v
  rw [← List.drop_drop, List.drop_left]; rfl
 ·show ((w ++ 32 :: v) ++ 10 :: r).drop ((w ++ 32 :: v).length + 1) = r
  rw [← List.drop_drop, List.drop_left]; rfl
theorem A68 {w s v r : List UInt8} (h : AY4 w s = some (v, r)) : s = w ++ 32 :: (v ++ 10 :: r) ∧ 10 ∉ v := by
 unfold AY4 at h
 split at h
 ·cases h
 ·rename_i i hc
  split at h
  ·rename_i hp
   obtain ⟨h1, h2, h3⟩ := AVA hc
   rw [List.isPrefixOf_iff_prefix] at hp
   obtain ⟨u, hu⟩ := hp
   simp only [Option.some.injEq, Prod.mk.injEq] at h
   obtain ⟨rfl, rfl⟩ := h
   have hd : (s.take i).drop (w.length + 1) = u := by
    rw [← hu, List.append_assoc, ← List.drop_drop, List.drop_left]; rfl
   rw [hd]
   constructor
   ·have e1 : s = s.take i ++ s.drop i := (List.take_append_drop i s).symm
    have e2 : s.drop i = 10 :: s.drop (i + 1) := by
     rw [List.drop_eq_getElem_cons h1]
     congr 1
     rw [List.getElem?_eq_getElem h1] at h2
     exact Option.some.inj h2
    rw [e2, ← hu] at e1
    simpa using e1
   ·intro hm
    exact h3 (by rw [← hu]; simp [hm])
  ·cases h
/-- Value, rest and what went wrong, in all cases. -/
def mv (w s : List UInt8) : List UInt8 := match AY4 w s with | some x => x.1 | none => []
def mr (w s : List UInt8) : List UInt8 := match AY4 w s with | some x => x.2 | none => s
def mb (w s : List UInt8) : Bool := (AY4 w s).isNone
theorem A2V {w s : List UInt8} (h : mb w s = false) : s = w ++ 32 :: (mv w s ++ 10 :: mr w s) ∧ 10 ∉ mv w s := by
 unfold mb at h
 unfold mv mr
 cases hn : AY4 w s with
 | none => rw [hn] at h; cases h
 | some x => exact A68 hn
theorem A5i {w v r : List UInt8} (hw : 10 ∉ w) (hv : 10 ∉ v) : mb w (w ++ 32 :: (v ++ 10 :: r)) = false ∧ mv w (w ++ 32 :: (v ++ 10 :: r)) = v ∧ mr w (w ++ 32 :: (v ++ 10 :: r)) = r := by
 unfold mb mv mr
 rw [Bcc hw hv]
 exact ⟨rfl, rfl, rfl⟩
theorem AY3 (w s : List UInt8) : (mv w s).length ≤ s.length ∧ (mr w s).length ≤ s.length := by
 cases h : mb w s with
 | false =>
  have := congrArg List.length (A2V h).1
  simp at this
  omega
 | true =>
  unfold mb at h
  unfold mv mr
  cases hn : AY4 w s with
  | none => simp
  | some x => rw [hn] at h; cases h
def AGY : List UInt8 := [111, 98, 106, 101, 99, 116]
def AMk : List UInt8 := [116, 121, 112, 101]
def A1Q : List UInt8 := [116, 97, 103]
def AGK : List UInt8 := [116, 97, 103, 103, 101, 114]
/-- A tag's text, of its parts' texts. -/
def A3W (x k n p m : List UInt8) : List UInt8 := AGY ++ 32 :: (x ++ 10 :: (AMk ++ 32 :: (k ++ 10 :: (A1Q ++ 32 :: (n ++ 10 :: (AGK ++ 32 :: (p ++ 10 :: (10 :: m))))))))
/-- The rests, line by line. -/
def tr1 (s : List UInt8) := mr AGY s
def tr2 (s : List UInt8) := mr AMk (tr1 s)
def tr3 (s : List UInt8) := mr A1Q (tr2 s)
def tr4 (s : List UInt8) := mr AGK (tr3 s)
def tv1 (s : List UInt8) := mv AGY s
def tv2 (s : List UInt8) := mv AMk (tr1 s)
def tv3 (s : List UInt8) := mv A1Q (tr2 s)
def tv4 (s : List UInt8) := mv AGK (tr3 s)
def A79 (s : List UInt8) : Bool := mb AGY s || mb AMk (tr1 s) || mb A1Q (tr2 s) || mb AGK (tr3 s)
theorem BgH {s m : List UInt8} (h : A79 s = false) (hm : tr4 s = 10 :: m) : s = A3W (tv1 s) (tv2 s) (tv3 s) (tv4 s) m := by
 simp only [A79, Bool.or_eq_false_iff] at h
 obtain ⟨⟨⟨h1, h2⟩, h3⟩, h4⟩ := h
 unfold A3W
 rw [← hm]
 have e4 := (A2V h4).1
 have e3 := (A2V h3).1
 have e2 := (A2V h2).1
 have e1 := (A2V h1).1
 unfold tr4 tv4
 rw [← e4]
 unfold tr3 tv3
 rw [← e3]
 unfold tr2 tv2
 rw [← e2]
 exact e1
theorem BbR {x k n p m : List UInt8} (hx : 10 ∉ x) (hk : 10 ∉ k) (hn : 10 ∉ n) (hp : 10 ∉ p) : A79 (A3W x k n p m) = false ∧ tv1 (A3W x k n p m) = x ∧ tv2 (A3W x k n p m) = k ∧ tv3 (A3W x k n p m) = n ∧ tv4 (A3W x k n p m) = p ∧ tr4 (A3W x k n p m) = 10 :: m := by
 obtain ⟨a1, b1, c1⟩ := A5i (w := AGY) (v := x) (r := AMk ++ 32 :: (k ++ 10 :: (A1Q ++ 32 :: (n ++ 10 :: (AGK ++ 32 :: (p ++ 10 :: (10 :: m))))))) (by decide) hx
 obtain ⟨a2, b2, c2⟩ := A5i (w := AMk) (v := k) (r := A1Q ++ 32 :: (n ++ 10 :: (AGK ++ 32 :: (p ++ 10 :: (10 :: m))))) (by decide) hk
 obtain ⟨a3, b3, c3⟩ := A5i (w := A1Q) (v := n) (r := AGK ++ 32 :: (p ++ 10 :: (10 :: m))) (by decide) hn
 obtain ⟨a4, b4, c4⟩ := A5i (w := AGK) (v := p) (r := 10 :: m) (by decide) hp
 unfold A79 tv4 tv3 tv2 tv1 tr4 tr3 tr2 tr1 A3W
 rw [c1, c2, c3, c4, a1, a2, a3, a4, b1, b2, b3, b4]
 exact ⟨rfl, rfl, rfl, rfl, rfl, rfl⟩
end Go.Proofs.YtliaddbbmnfioaaGreatDoor


namespace Go.Proofs.YtliaddbbmnfioaaGreatDoor
open Go.RowKit
variable [AFG]
set_option linter.unusedSectionVars false
set_option linter.unusedVariables false
set_option linter.unusedSimpArgs false

/-- What may stand in a tag's name. -/
def letters : List UInt8 := [97, 98, 99, 100, 101, 102, 103, 104, 105, 106, 107, 108, 109, 110, 111, 112, 113, 114, 115, 116, 117, 118, 119, 120, 121, 122, 65, 66, 67, 68, 69, 70, 71, 72, 73, 74, 75, 76, 77, 78, 79, 80, 81, 82, 83, 84, 85, 86, 87, 88, 89, 90, 48, 49, 50, 51, 52, 53, 54, 55, 56, 57, 46, 95, 45, 47]
def ATi (c : UInt8) : Bool := (97 ≤ c.toNat && c.toNat ≤ 122) || (65 ≤ c.toNat && c.toNat ≤ 90) || (48 ≤ c.toNat && c.toNat ≤ 57) || c == 46 || c == 95 || c == 45 || c == 47
theorem A77 : ∀ n : Nat, n < 256 → letters.contains (UInt8.ofNat n) = ATi (UInt8.ofNat n) := by decide +kernel
theorem A2m (c : UInt8) : letters.contains c = ATi c := by
 have := A77 c.toNat c.toNat_lt
 rwa [UInt8.ofNat_toNat] at this
/-- May it be a tag's name? -/
def AMP (s : List UInt8) : Bool := decide (0 < s.length ∧ s.length ≤ 60) && s.all ATi
/-- May it be a message? -/
def AOv (s : List UInt8) : Bool := decide (s.length ≤ 2000 ∧ 0 ∉ s)
theorem Bax {q : UInt8 → Bool} : ∀ {l : List UInt8}, (∀ x ∈ l.dropWhile q, q x = true) → ∀ x ∈ l, q x = true
 | [], _, x, hx => by cases hx
 | b :: l, h, x, hx => by
  cases hq : q b with
  | true =>
   rw [List.dropWhile_cons_of_pos hq] at h
   rcases List.mem_cons.1 hx with rfl | hx
   ·exact hq
   ·exact Bax h x hx
  | false =>
   rw [List.dropWhile_cons_of_neg (by simp [hq])] at h
   exact h x hx
theorem Bbc {s cs : List UInt8} : Lib.trimS s cs = [] ↔ ∀ c ∈ s, cs.contains c = true := by
 unfold Lib.trimS Lib.trimLeftS Lib.trimRightS
 constructor
 ·intro h
  have h1 : ∀ x ∈ (s.reverse.dropWhile (cs.contains ·)).reverse, cs.contains x = true := Bax (q := (cs.contains ·)) (by rw [h]; intro x hx; cases hx)
  have h2 : ∀ x ∈ s.reverse, cs.contains x = true := Bax (q := (cs.contains ·)) fun x hx => h1 x (by simpa using hx)
  exact fun c hc => h2 c (by simpa using hc)
 ·intro h
  have h1 : s.reverse.dropWhile (cs.contains ·) = [] := by
   have : ∀ {l : List UInt8}, (∀ x ∈ l, cs.contains x = true) → l.dropWhile (cs.contains ·) = [] := fun {l} => by
    induction l with
    | nil => intro _; rfl
    | cons b l ih =>
     intro hl
     rw [List.dropWhile_cons_of_pos (hl b (by simp))]
     exact ih fun x hx => hl x (by simp [hx])
   exact this fun x hx => h x (by simpa using hx)
  rw [h1]; rfl
theorem AVE {s : List UInt8} : AMP s = true ↔ 0 < s.length ∧ s.length ≤ 60 ∧ Lib.trimS s letters = [] := by
 unfold AMP
 rw [Bool.and_eq_true, decide_eq_true_eq, List.all_eq_true, Bbc]
 constructor
 ·rintro ⟨⟨h1, h2⟩, h3⟩; exact ⟨h1, h2, fun c hc => by rw [A2m]; exact h3 c hc⟩
 ·rintro ⟨h1, h2, h3⟩; exact ⟨⟨h1, h2⟩, fun c hc => by rw [← A2m]; exact h3 c hc⟩
theorem Be2 {k : Nat} (h : k < 10) : (10 : UInt8) ≠ UInt8.ofNat (48 + k) := fun e => by
 have := congrArg UInt8.toNat e
 rw [UInt8.toNat_ofNat'] at this
 simp at this
 omega
theorem A4L {p : Per} (h : AGR p) : 10 ∉ AJl p := by
 obtain ⟨h1, h2, _, _, h5, h6⟩ := h
 unfold AJl AIH
 intro hm
 simp only [List.mem_append, List.mem_cons, List.not_mem_nil, or_false] at hm
 rcases hm with hm | (hm | hm) | hm | (hm | hm) | hm | hm | hm | hm
 ·exact (h1.2.1 _ hm).2.2.1 rfl
 ·cases hm
 ·cases hm
 ·exact (h2.2.1 _ hm).2.2.1 rfl
 ·cases hm
 ·cases hm
 ·have := Bbz _ _ hm; simp at this
 ·cases hm
 ·unfold AY8 at hm; split at hm <;> cases hm
 ·unfold AVX at hm
  simp only [List.mem_cons, List.not_mem_nil, or_false] at hm
  rcases hm with hm | hm | hm | hm <;> exact absurd hm (Be2 (by omega))
end Go.Proofs.YtliaddbbmnfioaaGreatDoor

