/- What the proof of ObjectCommitsCard stands on (texts merged; names shortened by a program): part 5. -/
import Derived.Test.YtliaddbbmnfioaaGreatDoorQD
import Derived.ProofKit
import Derived.OpenShut
import Derived.ShutString
import Derived.ChangeOld
import Derived.Below
import Derived.Carry
import Derived.SizedLaws
import Derived.Lib.LaidTab
import Derived.LaidHandle
import Derived.Handed
import Derived.ShapedOpen
import Derived.Shelf.Vars
import Derived.Test.YtliaddbbmnfioaaGreatDoorProg
import Derived.KernelRfl
import Derived.Lib.ItoaNum
import Derived.Lib.ItoaLen
import Derived.Shelf.Strings.Trim
import Derived.Shelf.Small.Utf8
import Derived.Shelf.Small.Bits
import Derived.Shelf.Small.Strs
import Derived.Shelf.Small.Wraps
import Derived.Shelf.Strconv.Itoa0
import Derived.Shelf.Strconv.Itoa1
import Derived.Shelf.LaysM
import Derived.Shelf.Strconv.Itoa2
import Derived.Shelf.Strconv.Itoa3
import Derived.Shelf.Strconv.Itoa4
import Derived.Shelf.Strconv.Clone
import Derived.Shelf.Strconv.SyntaxError
import Derived.Shelf.LaysC
import Derived.Shelf.Strconv.ToError
import Derived.Shelf.Strconv.Lower
import Derived.Shelf.Strconv.ParseUint10
import Derived.Shelf.Strconv.ParseUint10Empty
import Derived.Shelf.Strconv.ParseUint10Any
import Derived.Shelf.Strconv.RangeError
import Derived.Shelf.Strconv.ToErrorRange
import Derived.Shelf.Strings.Search1
import Derived.Shelf.Strings.Search2
import Derived.Shelf.Strings.Search3
import Derived.Shelf.Strings.Cut
import Derived.Shelf.Strings.Shaped
import Derived.Shelf.Strings.Prefix
import Derived.Shelf.Strings.Runes
import Derived.Shelf.Strings.IndexAny
import Derived.Shelf.Strings.AsciiSet
import Derived.Shelf.Strings.IndexAnyAll
import Derived.Shelf.Unicode.DecodeSlow
import Derived.Shelf.Bytes.SlIndexSmall
import Derived.Shelf.Bytes.SlIndexAt
import Derived.Shelf.Bytes.Small
import Derived.Shelf.Bytes.IndexByte
import Derived.WalkKit
import Derived.Lib.BytesEntry
namespace Go.Proofs.YtliaddbbmnfioaaGreatDoor
open Go.RowKit Go.WideShapes Go.ChangeShapes
variable [Bf]
set_option linter.unusedSectionVars false
set_option linter.unusedVariables false
set_option linter.unusedSimpArgs false
set_option autoImplicit false
def came (w : World) : Ctx := ⟨fun _ _ => none, [], fun b => b < w.heap.size⟩
def Pg (P : Program) (t : TypeId) {α : Type} (f : α → TV) (ok : α → Prop) : Prop :=
 ∀ {H : Type} (enc : TypeId × Value → H) (w : World) (fuel : Nat) (cs : List Value) (d : DataW H) (ps : List MemPlace),
  DataW.trod enc P w 0 (fun _ => true) true fuel t cs = some (d, ps) → (d.weights P t).all (· ≤ reachBytes) = true → ∃ a, Am (came w) w (f a) cs ∧ ok a

theorem Al0 {α β : Type} {f : α → Option β} : ∀ {l : List α} {xs : List β}, l.mapM f = some xs → xs.length = l.length ∧ ∀ (i : Nat) a, l[i]? = some a → ∃ x, xs[i]? = some x ∧ f a = some x
 | [], xs, h => by simp at h; subst h; simp
 | a :: l, xs, h => by
  rw [List.mapM_cons] at h
  cases hf : f a with
  | none => rw [hf] at h; cases h
  | some y =>
   rw [hf] at h
   cases hl : l.mapM f with
   | none => rw [hl] at h; cases h
   | some ys =>
    rw [hl] at h
    have e : xs = y :: ys := by simpa using h.symm
    subst e
    obtain ⟨h1, h2⟩ := Al0 hl
    refine ⟨by simp [h1], fun i b hb => ?_⟩
    cases i with
    | zero => simp at hb; subst hb; exact ⟨y, by simp, hf⟩
    | succ i => simpa using h2 i b (by simpa using hb)
theorem Abf {β : Type} {f : Nat → Option β} {n : Nat} {xs : List β} (h : (List.range n).mapM f = some xs) : xs.length = n ∧ ∀ i, i < n → ∃ x, xs[i]? = some x ∧ f i = some x := by
 obtain ⟨h1, h2⟩ := Al0 h
 exact ⟨by simpa using h1, fun i hi => h2 i i (by simp [hi])⟩

section
variable {P : Program} {t e : TypeId}
theorem AeH {H : Type} {enc : TypeId × Value → H} {w : World} {fuel : Nat} {cs : List Value} {x : DataW H × List MemPlace} (h : DataW.trod enc P w 0 (fun _ => true) true fuel t cs = some x) : ∃ n, fuel = n + 1 := by
 cases fuel with
 | zero => simp [DataW.trod] at h
 | succ n => exact ⟨n, rfl⟩

theorem Ajd {k : IntKind} (ht : P.underlying t = some (.int k)) : Pg P t (fun n => .val (.int k n)) (fun n => (Lit.int k n).wf = true) := by
 intro H enc w fuel cs d ps h _
 obtain ⟨n, rfl⟩ := AeH h
 unfold DataW.trod at h; rw [ht] at h
 split at h <;> rename_i h1 <;> try (simp at h1; done)
 all_goals try (cases h; done)
 all_goals try (simp only [Option.some.injEq, TypeDesc.int.injEq] at h1)
 all_goals first
  | (subst h1; split at h; (rename_i hc; obtain ⟨rfl, hw⟩ := hc; cases h; exact ⟨_, by rw [Am]; exact ⟨rfl, rfl⟩, hw⟩); cases h)
  | (simp at h1; done)
  | (simp at h; done)
theorem YB (ht : P.underlying t = some .string) : Pg P t (fun l => .val (.string (str l))) (fun l => l.length ≤ 140737488351232) := by
 intro H enc w fuel cs d ps h hw
 obtain ⟨n, rfl⟩ := AeH h
 unfold DataW.trod at h; rw [ht] at h
 split at h <;> rename_i h1 <;> try (simp at h1; done)
 all_goals first
  | (simp at h1; done)
  | (simp at h; done)
  | (simp only [Option.ite_none_right_eq_some, Option.some.injEq, Prod.mk.injEq] at h; obtain ⟨hm, rfl, rfl⟩ := h; refine ⟨bl _, by rw [Am, AAi]; exact ⟨rfl, rfl⟩, ?_⟩; simp only [DataW.weights, List.all_cons, List.all_nil, Bool.and_true, reachBytes] at hw; exact of_decide_eq_true hw)
end

theorem UC {H : Type} {P : Program} {e : TypeId} {d : DataW H} {n : Nat} (hn : n ∈ d.weights P e) : ∀ {ds : List (DataW H)}, d ∈ ds → n ∈ DataW.weightsAll P e ds
 | d0 :: ds, h => by
  simp only [DataW.weightsAll, List.mem_append]
  rcases List.mem_cons.1 h with rfl | h
  ·exact Or.inl hn
  ·exact Or.inr (UC hn h)
theorem OM {l m : List Nat} (h : m.all (· ≤ reachBytes) = true) (hs : ∀ n ∈ l, n ∈ m) : l.all (· ≤ reachBytes) = true := List.all_eq_true.2 fun n hn => List.all_eq_true.1 h n (hs n hn)

theorem AyA (a : Addr) (i j : Nat) : (a.add i).add j = a.add (i + j) := by
 unfold Addr.add
 by_cases h1 : i = 0 <;> by_cases h2 : j = 0 <;> simp [h1, h2, Nat.add_assoc]
theorem AuA (b off i : Nat) : (⟨b, off, none⟩ : Addr).add i = ⟨b, off + i, none⟩ := by
 unfold Addr.add
 by_cases h1 : i = 0 <;> simp [h1]
theorem Ao1 {w : World} {a : Addr} {n : Nat} {us : List Value} (h : w.cells? 0 a n = some us) : us.length = n ∧ ∀ i, i < n → ∃ u, us[i]? = some u ∧ w.cell? (a.add i) = some u := by
 unfold World.cells? at h
 rw [if_pos (Nat.zero_le _)] at h
 exact Abf h
theorem Alz {α : Type} {f : α → TV} {ok : α → Prop} {k : Nat} (hw : ∀ a, ok a → AC (f a) = k) {w : World} {b off : Nat} : ∀ (n i0 : Nat), (∀ i, i < n → ∃ us a, Am (came w) w (f a) us ∧ ok a ∧ us.length = k ∧ DZ w b (off + (i0 + i) * k) us) →
  ∃ (l : List α) (us : List Value), l.length = n ∧ (∀ a ∈ l, ok a) ∧ Ap (came w) w (l.map f) us ∧ us.length = n * k ∧ DZ w b (off + i0 * k) us
 | 0, i0, _ => ⟨[], [], rfl, by simp, by rw [List.map_nil, Ap], by simp, fun j u h => by simp at h⟩
 | n + 1, i0, h => by
  obtain ⟨us, a, h1, h2, h3, h4⟩ := h 0 (by omega)
  obtain ⟨l, vs, k1, k2, k3, k4, k5⟩ := Alz hw n (i0 + 1) (fun i hi => by
   obtain ⟨us, a, h1, h2, h3, h4⟩ := h (i + 1) (by omega)
   exact ⟨us, a, h1, h2, h3, by rw [show i0 + 1 + i = i0 + (i + 1) from by omega]; exact h4⟩)
  refine ⟨a :: l, us ++ vs, by simp [k1], fun c hc => ?_, ?_, ?_, ?_⟩
  ·rcases List.mem_cons.1 hc with rfl | hc
   ·exact h2
   ·exact k2 c hc
  ·rw [List.map_cons, Ap]; exact ⟨us, vs, rfl, h1, k3⟩
  ·rw [List.length_append, h3, k4, Nat.succ_mul, Nat.add_comm]
  ·intro j u hj
   by_cases hjk : j < k
   ·rw [List.getElem?_append_left (by omega)] at hj
    have := h4 j u hj
    rwa [Nat.add_zero] at this
   ·rw [List.getElem?_append_right (by omega), h3] at hj
    have := k5 (j - k) u hj
    rw [show off + (i0 + 1) * k + (j - k) = off + i0 * k + j from by rw [Nat.succ_mul]; omega] at this
    exact this

section
variable {P : Program} {t e : TypeId} {α : Type} {f : α → TV} {ok : α → Prop} {k B : Nat}
theorem Agb (ht : P.underlying t = some (.slice e)) (hk : P.cellsOf e = k) (hB : P.bytesOf e = B) (hc : Pg P e f ok) (hw : ∀ a, ok a → AC (f a) = k) (h0 : k ≠ 0) :
  Pg P t (fun l : List α => .sl k (l.map f)) (fun l => (∀ a ∈ l, ok a) ∧ l.length * B ≤ 140737488351232 ∧ l.length ≤ 9223372036854775807) := by
 intro H enc w fuel cs d ps h hwt
 obtain ⟨n, rfl⟩ := AeH h
 unfold DataW.trod at h; rw [ht] at h
 split at h <;> rename_i h1 <;> try (simp at h1; done)
 all_goals first
  | (simp at h; done)
  | skip
 ·cases h
  refine ⟨[], ?_, by simp, by simp, by simp⟩
  rw [Am]; exact ⟨by simp, .inl ⟨rfl, none, 0, rfl, by omega⟩⟩
 ·rename_i a len cap
  simp only [Option.some.injEq, TypeDesc.slice.injEq] at h1
  subst h1
  split at h
  ·rename_i hcond
   obtain ⟨-, hlc, hcm⟩ := hcond
   rw [Option.bind_eq_some_iff] at h
   obtain ⟨elems, he, h⟩ := h
   rw [if_pos rfl, Option.map_eq_some_iff] at h
   obtain ⟨rest, hr, h⟩ := h
   simp only [Prod.mk.injEq] at h
   obtain ⟨rfl, rfl⟩ := h
   obtain ⟨e1, e2⟩ := Abf he
   obtain ⟨r1, _⟩ := Abf hr
   unfold maxLen at hcm
   simp only [DataW.weights, ht, List.all_cons, Bool.and_eq_true, decide_eq_true_eq, reachBytes, List.length_map, e1, r1, hB] at hwt
   have hcapB : cap * B ≤ 140737488351232 := by have := of_decide_eq_true hwt.1; rwa [Nat.add_sub_cancel' hlc] at this
   have hlen : len * B ≤ 140737488351232 := Nat.le_trans (Nat.mul_le_mul_right _ hlc) hcapB
   have hwe : (DataW.weightsAll P e (elems.map (·.1))).all (· ≤ reachBytes) = true := OM (m := DataW.weightsAll P e (elems.map (·.1)) ++ DataW.weightsAll P e (rest.map (·.1))) hwt.2 (fun n hn => List.mem_append_left _ hn)
   obtain ⟨b, off, spot⟩ := a
   have key : ∀ i, i < len → ∃ us a, Am (came w) w (f a) us ∧ ok a ∧ us.length = k ∧ (∀ j u, us[j]? = some u → w.cell? ((⟨b, off, spot⟩ : Addr).add (i * k + j)) = some u) := by
    intro i hi
    obtain ⟨x, hx, hxe⟩ := e2 i hi
    rw [Option.bind_eq_some_iff] at hxe
    obtain ⟨us, hus, htr⟩ := hxe
    rw [hk] at hus
    obtain ⟨c1, c2⟩ := Ao1 hus
    obtain ⟨a, ha, hok⟩ := hc enc w n us x.1 x.2 htr (OM hwe fun m hm => UC hm (List.mem_map.2 ⟨x, List.mem_of_getElem? hx, rfl⟩))
    refine ⟨us, a, ha, hok, c1, fun j u hj => ?_⟩
    have hjk : j < k := by rw [← c1]; exact (List.getElem?_eq_some_iff.1 hj).1
    obtain ⟨u', hu', hcu⟩ := c2 j hjk
    rw [hj] at hu'; cases hu'
    rw [AyA] at hcu
    exact hcu
   by_cases hl0 : len = 0
   ·subst hl0
    refine ⟨[], ?_, by simp, by simp, by simp⟩
    rw [Am]; exact ⟨by simp, .inl ⟨rfl, _, cap, rfl, hcm⟩⟩
   ·have hsp : spot = none := by
     obtain ⟨us, a, _, _, c1, c2⟩ := key 0 (by omega)
     have hu : us[0]? = some us[0] := List.getElem?_eq_getElem (by omega)
     have := c2 0 _ hu
     simpa [Addr.add] using World.cell?_spot this
    subst hsp
    obtain ⟨l, us, l1, l2, l3, l4, l5⟩ := Alz (f := f) (ok := ok) hw (w := w) (b := b) (off := off) len 0 (fun i hi => by
     obtain ⟨us, a, h1, h2, h3, h4⟩ := key i hi
     refine ⟨us, a, h1, h2, h3, fun j u hj => ?_⟩
     have := h4 j u hj
     rw [AuA] at this
     rw [Nat.zero_add, Nat.add_assoc]; exact this)
    refine ⟨l, ?_, l2, by rw [l1]; exact hlen, by omega⟩
    rw [Am]
    refine ⟨fun x hx => ?_, .inr ⟨b, off, cap, us, by rw [List.length_map, l1], by rw [List.length_map, l1]; exact hlc, hcm, ?_, l3, by simpa using l5⟩⟩
    ·obtain ⟨a, ha, rfl⟩ := List.mem_map.1 hx; exact hw a (l2 a ha)
    ·have hus : 0 < us.length := by rw [l4]; exact Nat.mul_pos (by omega) (by omega)
     exact Ayw (l5 0 us[0] (List.getElem?_eq_getElem hus))
  ·cases h
end
section
variable {P : Program} {t e : TypeId} {α : Type} {f : α → TV} {ok : α → Prop} {k : Nat}
theorem RS {β : Type} {g : β → TV} {ok' : β → Prop} (h : Pg P t f ok) (hm : ∀ a, ok a → ∃ b, f a = g b ∧ ok' b) : Pg P t g ok' := by
 intro H enc w fuel cs d ps h1 h2
 obtain ⟨a, h3, h4⟩ := h enc w fuel cs d ps h1 h2
 obtain ⟨b, h5, h6⟩ := hm a h4
 exact ⟨b, by rw [← h5]; exact h3, h6⟩
theorem Alb (ht : P.underlying t = some (.int .u8)) : Pg P t by8 (fun _ => True) :=
 RS (Ajd ht) fun n h => by
  have := bounds_u8 h
  refine ⟨UInt8.ofNat n.toNat, ?_, trivial⟩
  rw [by8, UInt8.toNat_ofNat', Nat.mod_eq_of_lt (by omega)]
  congr 2; omega
theorem Ajk (ht : P.underlying t = some (.int .i64)) : Pg P t i64 (fun n => -9223372036854775808 ≤ n ∧ n ≤ 9223372036854775807) :=
 RS (Ajd ht) fun n h => ⟨n, rfl, by have := bounds_i64 h; omega⟩
theorem AkF (ht : P.underlying t = some (.slice e)) (he : P.underlying e = some (.int .u8)) (hk : P.cellsOf e = 1) (hB : P.bytesOf e = 1) : Pg P t slB (fun l => l.length ≤ 140737488351232) :=
 RS (Agb ht hk hB (Alb he) (fun _ _ => rfl) (by omega)) fun l h => ⟨l, rfl, by have := h.2; omega⟩
theorem Ayd {H : Type} {P : Program} {e : TypeId} {parts : List (DataW H)} (h : (DataW.weightsAll P e parts).all (· ≤ reachBytes) = true) {d : DataW H} (hd : d ∈ parts) : (d.weights P e).all (· ≤ reachBytes) = true :=
 OM h fun n hn => UC hn hd
theorem Anu {w : World} (hw : ∀ a, ok a → AC (f a) = k) : ∀ (n i0 : Nat) (cs : List Value), cs.length = n * k → (∀ i, i < n → ∃ a, Am (came w) w (f a) ((cs.drop (i * k)).take k) ∧ ok a) →
  ∃ l : List α, l.length = n ∧ (∀ a ∈ l, ok a) ∧ Ap (came w) w (l.map f) cs
 | 0, i0, cs, hl, _ => ⟨[], rfl, by simp, by rw [List.map_nil, Ap]; exact List.length_eq_zero_iff.1 (by simpa using hl)⟩
 | n + 1, i0, cs, hl, h => by
  obtain ⟨a, h1, h2⟩ := h 0 (by omega)
  rw [Nat.zero_mul, List.drop_zero] at h1
  rw [Nat.succ_mul] at hl
  obtain ⟨l, k1, k2, k3⟩ := Anu hw n 0 (cs.drop k) (by rw [List.length_drop]; omega) (fun i hi => by
   obtain ⟨a, h1, h2⟩ := h (i + 1) (by omega)
   exact ⟨a, by rw [List.drop_drop]; rw [Nat.succ_mul, Nat.add_comm] at h1; exact h1, h2⟩)
  refine ⟨a :: l, by simp [k1], fun c hc => ?_, ?_⟩
  ·rcases List.mem_cons.1 hc with rfl | hc
   ·exact h2
   ·exact k2 c hc
  ·rw [List.map_cons, Ap]
   exact ⟨cs.take k, cs.drop k, (List.take_append_drop k cs).symm, h1, k3⟩
theorem AlI {n : Nat} (ht : P.underlying t = some (.array n e)) (hk : P.cellsOf e = k) (hn : P.cellsOf t = n * k) (hc : Pg P e f ok) (hw : ∀ a, ok a → AC (f a) = k) :
  Pg P t (fun l : List α => .arr n k (l.map f)) (fun l => l.length = n ∧ ∀ a ∈ l, ok a) := by
 intro H enc w fuel cs d ps h hwt
 obtain ⟨m, rfl⟩ := AeH h
 unfold DataW.trod at h; rw [ht] at h
 split at h <;> rename_i h1 <;> try (simp at h1; done)
 all_goals first
  | (simp at h; done)
  | exact ((‹∀ (n_1 : Nat) (e_1 : TypeId), some (TypeDesc.array n e) = some (TypeDesc.array n_1 e_1) → False› : ∀ (n_1 : Nat) (e_1 : TypeId), some (TypeDesc.array n e) = some (TypeDesc.array n_1 e_1) → False) n e rfl).elim
  | skip
 cases h1
 split at h
 ·rename_i hlen
  rw [Option.map_eq_some_iff] at h
  obtain ⟨xs, hx, h⟩ := h
  simp only [Prod.mk.injEq] at h
  obtain ⟨rfl, rfl⟩ := h
  obtain ⟨e1, e2⟩ := Abf hx
  simp only [DataW.weights, ht] at hwt
  rw [hn] at hlen
  obtain ⟨l, l1, l2, l3⟩ := Anu (f := f) (ok := ok) (w := w) hw _ 0 _ hlen (fun i hi => by
   obtain ⟨x, hx, hxe⟩ := e2 i hi
   rw [hk] at hxe
   obtain ⟨a, ha, hok⟩ := hc enc w m _ x.1 x.2 hxe (Ayd hwt (List.mem_map.2 ⟨x, List.mem_of_getElem? hx, rfl⟩))
   exact ⟨a, ha, hok⟩)
  refine ⟨l, ?_, l1, l2⟩
  rw [Am]
  refine ⟨by rw [List.length_map, l1], fun x hx => ?_, l3⟩
  obtain ⟨a, ha, rfl⟩ := List.mem_map.1 hx; exact hw a (l2 a ha)
 ·cases h
end

def AjH (P : Program) (off : Nat) (fs : List Field) {α : Type} (f : α → List TV) (ok : α → Prop) : Prop :=
 ∀ {H : Type} (enc : TypeId × Value → H) (w : World) (fuel : Nat) (cs : List Value) (xs : List (DataW H × List MemPlace)),
  (fs.mapM fun fd => DataW.trod enc P w 0 (fun _ => true) true fuel fd.type ((cs.drop fd.offset).take (P.cellsOf fd.type))) = some xs → (DataW.weightsEach P (fs.map (·.type)) (xs.map (·.1))).all (· ≤ reachBytes) = true →
  cs.length = off + (fs.map fun fd => P.cellsOf fd.type).sum → ∃ a, Ap (came w) w (f a) (cs.drop off) ∧ ok a
theorem AhL {P : Program} {off : Nat} : AjH P off [] (fun _ : Unit => []) (fun _ => True) := by
 intro H enc w fuel cs xs _ _ hl
 refine ⟨(), ?_, trivial⟩
 rw [Ap]; exact List.drop_eq_nil_of_le (by simp at hl; omega)
theorem Ff {P : Program} {off n : Nat} {fd : Field} {fs : List Field} {α β : Type} {f : α → TV} {ok : α → Prop} {g : β → List TV} {ok' : β → Prop} (h0 : fd.offset = off) (hn : P.cellsOf fd.type = n) (hc : Pg P fd.type f ok) (hr : AjH P (off + n) fs g ok') :
  AjH P off (fd :: fs) (fun x : α × β => f x.1 :: g x.2) (fun x => ok x.1 ∧ ok' x.2) := by
 intro H enc w fuel cs xs hx hw hl
 rw [List.mapM_cons] at hx
 cases h1 : DataW.trod enc P w 0 (fun _ => true) true fuel fd.type ((cs.drop fd.offset).take (P.cellsOf fd.type)) with
 | none => rw [h1] at hx; cases hx
 | some y =>
  rw [h1] at hx
  cases h2 : (fs.mapM fun fd => DataW.trod enc P w 0 (fun _ => true) true fuel fd.type ((cs.drop fd.offset).take (P.cellsOf fd.type))) with
  | none => rw [h2] at hx; cases hx
  | some ys =>
   rw [h2] at hx
   have e : xs = y :: ys := by simpa using hx.symm
   subst e
   simp only [List.map_cons, DataW.weightsEach] at hw
   obtain ⟨a, ha, hoka⟩ := hc enc w fuel _ y.1 y.2 h1 (OM hw fun n hn => List.mem_append_left _ hn)
   obtain ⟨b, hb, hokb⟩ := hr enc w fuel cs ys h2 (OM hw fun n hn => List.mem_append_right _ hn) (by simp [hn] at hl ⊢; omega)
   refine ⟨(a, b), ?_, hoka, hokb⟩
   rw [Ap]
   refine ⟨(cs.drop off).take n, cs.drop (off + n), ?_, by rw [← h0, ← hn]; exact ha, hb⟩
   rw [← List.drop_drop, List.take_append_drop]
theorem Aez {P : Program} {t : TypeId} {fs : Array Field} {α : Type} {f : α → List TV} {ok : α → Prop} (ht : P.underlying t = some (.struct fs)) (hn : P.cellsOf t = (fs.toList.map fun fd => P.cellsOf fd.type).sum) (hc : AjH P 0 fs.toList f ok) :
  Pg P t (fun a => .agg (f a)) ok := by
 intro H enc w fuel cs d ps h hwt
 obtain ⟨m, rfl⟩ := AeH h
 unfold DataW.trod at h; rw [ht] at h
 split at h <;> rename_i h1 <;> try (simp at h1; done)
 all_goals first
  | (simp at h; done)
  | exact ((‹∀ (fs_1 : Array Field), some (TypeDesc.struct fs) = some (TypeDesc.struct fs_1) → False› : ∀ (fs_1 : Array Field), some (TypeDesc.struct fs) = some (TypeDesc.struct fs_1) → False) fs rfl).elim
  | skip
 cases h1
 split at h
 ·rename_i hlen
  rw [Option.map_eq_some_iff] at h
  obtain ⟨xs, hx, h⟩ := h
  simp only [Prod.mk.injEq] at h
  obtain ⟨rfl, rfl⟩ := h
  simp only [DataW.weights, ht] at hwt
  obtain ⟨a, ha, hok⟩ := hc enc w m _ xs hx hwt (by rw [hlen, hn, Nat.zero_add])
  exact ⟨a, by rw [Am]; rw [List.drop_zero] at ha; exact ha, hok⟩
 ·cases h

def AeN (P : Program) (ts : List TypeId) {α : Type} (f : α → List TV) (ok : α → Prop) : Prop :=
 ∀ {H : Type} (enc : TypeId × Value → H) (w : World) (vs : List Value) (ds : List (DataW H)) (ps : List MemPlace),
  DataW.TrodAll enc P w 0 (fun _ => true) true ts vs ds ps → (∀ (j : Nat) t v, ts[j]? = some t → vs[j]? = some v → ∃ base, Value.okWide P w .any base t v) → (DataW.weightsEach P ts ds).all (· ≤ reachBytes) = true → ∃ a, BU (came w) w (f a) vs ∧ ok a
theorem AjO {P : Program} : AeN P [] (fun _ : Unit => []) (fun _ => True) := by
 intro H enc w vs ds ps h _ _
 obtain ⟨rfl, rfl, rfl⟩ := trodAll_nil h
 exact ⟨(), by rw [BU], trivial⟩
def An2 (P : Program) (t : TypeId) (b : Bool) : Prop := ∀ w base v, Value.okWide P w .any base t v → if b then ∃ cs, v = .agg cs else v.cells = #[v]
theorem AkB {P : Program} {t e : TypeId} (ht : P.underlying t = some (.slice e)) : An2 P t false := fun w _ v h => by obtain ⟨_, _, _, rfl⟩ := okWide_slice ht h; rfl
theorem Aj7 {P : Program} {t : TypeId} {fs : Array Field} (ht : P.underlying t = some (.struct fs)) : An2 P t true := fun w _ v h => by obtain ⟨cs, rfl, _⟩ := okWide_struct ht h; exact ⟨cs, rfl⟩
theorem AqD {c : Ctx} {P : Program} {w : World} {t : TypeId} {v : Value} {x : TV} {b : Bool} (hf : An2 P t b) {base : Nat} (hv : Value.okWide P w .any base t v) (hx : Afd x = b) : v = mkV x v.cells.toList := by
 have h := hf w base v hv
 cases b with
 | true =>
  simp only [if_true] at h
  obtain ⟨cs, rfl⟩ := h
  rw [Aoc hx]; simp [Value.cells]
 | false =>
  simp only [Bool.false_eq_true, if_false] at h
  rw [h]
  exact (Ag8 hx).symm
theorem Ab5 {P : Program} {t : TypeId} {ts : List TypeId} {α β : Type} {f : α → TV} {ok : α → Prop} {g : β → List TV} {ok' : β → Prop} {b : Bool} (hc : Pg P t f ok) (hf : An2 P t b) (hm : ∀ a, Afd (f a) = b) (hr : AeN P ts g ok') :
  AeN P (t :: ts) (fun x : α × β => f x.1 :: g x.2) (fun x => ok x.1 ∧ ok' x.2) := by
 intro H enc w vs ds ps h hv hw
 obtain ⟨v, vs', d, ds', p, q, rfl, rfl, rfl, h0, r0⟩ := trodAll_cons h
 simp only [DataW.weightsEach] at hw
 obtain ⟨fuel, hfu⟩ := h0
 obtain ⟨a, ha, hoka⟩ := hc enc w fuel _ d p hfu (OM hw fun n hn => List.mem_append_left _ hn)
 obtain ⟨b, hb, hokb⟩ := hr enc w vs' ds' q r0 (fun j t v h1 h2 => hv (j + 1) t v (by simpa using h1) (by simpa using h2)) (OM hw fun n hn => List.mem_append_right _ hn)
 refine ⟨(a, b), BU.cons.2 ⟨v, vs', rfl, .inr (.inr ⟨v.cells.toList, ha, AqD (c := came w) hf (hv 0 t v rfl rfl).choose_spec (hm a)⟩), hb⟩, hoka, hokb⟩
theorem AeK {H : Type} {enc : TypeId × Value → H} {P : Program} (hl : laidOutB P = true) {W W' : World} (hb : Below W.heap.size W W') : ∀ {ts : List TypeId} {vs : List Value} {ds : List (DataW H)} {ps : List MemPlace}, (ts.all fun t => P.readableRec t && decide (t < P.types.size)) = true →
  DataW.TrodAll enc P W 0 (fun _ => true) true ts vs ds ps → DataW.TrodAll enc P W' 0 (fun b => decide (b < W.heap.size)) true ts vs ds ps
 | [], vs, ds, ps, _, h => by
  obtain ⟨rfl, rfl, rfl⟩ := trodAll_nil h
  exact trodAll_mk0
 | t :: ts, vs, ds, ps, hr, h => by
  obtain ⟨v, vs', d, ds', p, q, rfl, rfl, rfl, h0, r0⟩ := trodAll_cons h
  simp only [List.all_cons, Bool.and_eq_true, decide_eq_true_eq] at hr
  refine trodAll_cons_mk (Below.trod hl hr.1.1 hr.1.2 h0 hb ?_) (AeK hl hb (by simpa using hr.2) r0)
  obtain ⟨m, hm⟩ := h0
  exact DataW.trod_lt m _ _ _ hm

theorem YU.below {F F' : Nat → Prop} {w w' : World} (h : YU F w F' w') : Below w.heap.size w w' := ⟨h.os, h.tape, h.output, h.size, fun k hk => h.same k hk⟩
theorem Azt {P : Program} {f : FuncId} {ts : List TypeId} {α : Type} {g : α → List TV} {ok : α → Prop} (hc : AeN P ts g ok) (hlaw : ∀ a, ok a → Bj P f (g a) (fun x => x = tb true)) {H : Type} {enc : TypeId × Value → H} {w : World} {args : Array Value} {ds : List (DataW H)} {ps : List MemPlace}
  (h : DataW.TrodAll enc P w 0 (fun _ => true) true ts args.toList ds ps) (hv : ∀ (j : Nat) t v, ts[j]? = some t → args.toList[j]? = some v → ∃ base, Value.okWide P w .any base t v) (hw : (DataW.weightsEach P ts ds).all (· ≤ reachBytes) = true) (hg : IZ (fun b => b < w.heap.size) w) :
  Calls P f args w fun e w' => e = .returned (.bool true) ∧ Below w.heap.size w w' := by
 obtain ⟨a, ha, hok⟩ := hc enc w args.toList ds ps h hv hw
 have := hlaw a hok (fun _ _ => none) (fun b => b < w.heap.size) w args.toList ⟨fun b h => h, hg⟩ ha
 rw [Array.toArray_toList] at this
 refine this.mono ?_
 rintro e w' ⟨v, x, F', rfl, rfl, hx, hst⟩
 rw [Rep.val] at hx
 exact ⟨by rw [hx], hst.below⟩
end Go.Proofs.YtliaddbbmnfioaaGreatDoor


namespace Go.Proofs.YtliaddbbmnfioaaGreatDoor
open Go.RowKit
variable [Bf]
set_option linter.unusedSectionVars false
set_option linter.unusedVariables false

theorem AoM {g : Nat} {x : GV} (h : KI g = some x) : (g, x) ∈ Bf.l := by
 unfold KI at h
 obtain ⟨p, hp, rfl⟩ := Option.map_eq_some_iff.1 h
 have h1 := List.mem_of_find?_eq_some hp
 have h2 := List.find?_some hp
 have h3 : p.1 = g := by simpa using h2
 obtain ⟨a, b⟩ := p
 simp only at h3; subst h3; exact h1
section
omit [Bf]
theorem Aj1 {P : Program} {w : World} {name : String} {g : Nat} {cs : Array Value} (hg : P.globalNamed name = some g) (h : w.var? P name = some cs) : ∃ t fr, w.heap[g]? = some (.cells cs t fr) := by
 unfold World.var? at h
 rw [hg, Option.bind_some] at h
 split at h
 ·rename_i c t fr hh; cases h; exact ⟨t, fr, hh⟩
 ·cases h
def AsQ (P : Program) (t : TypeId) : Bool := match P.underlying t with
 | some (.int _) => true
 | some .string => true
 | _ => false
def ABR : DataW Unit → Option Value
 | .lit (.int k n) => some (.int k n)
 | .lit (.string l) => some (.string ⟨l.toArray⟩)
 | _ => none
variable {P : Program} {w : World} {fuel : Nat} {cs : List Value}
theorem AmH {t : TypeId} {x : DataW Unit × List MemPlace} (ht : AsQ P t = true) (h : DataW.trod (fun _ => ()) P w 0 (fun _ => true) false fuel t cs = some x) : ∃ v, ABR x.1 = some v ∧ cs = [v] := by
 unfold AsQ at ht
 split at ht
 ·rename_i k hk
  obtain ⟨n, rfl, rfl, _⟩ := DataW.trod_int hk h
  exact ⟨_, rfl, rfl⟩
 ·rename_i hk
  obtain ⟨s, rfl, rfl, _⟩ := DataW.trod_string hk h
  exact ⟨_, rfl, by simp⟩
 ·cases ht
theorem Aml {t e : TypeId} {n : Nat} {ds : List (DataW Unit)} {p : List MemPlace} {vs : List Value} (ht : P.underlying t = some (.array n e)) (he : AsQ P e = true) (hce : P.cellsOf e = 1) (hct : P.cellsOf t = n) (hv : ds.map ABR = vs.map some)
  (h : DataW.trod (fun _ => ()) P w 0 (fun _ => true) false fuel t cs = some (.agg ds, p)) : cs = vs := by
 cases fuel with
 | zero => simp [DataW.trod] at h
 | succ fuel =>
  simp only [DataW.trod, ht, hce, hct, Nat.mul_one] at h
  split at h
  ·rename_i hl
   obtain ⟨xs, hm, hx⟩ := Option.map_eq_some_iff.1 h
   have hxs : xs.map (·.1) = ds := by
    have := congrArg Prod.fst hx
    simpa using this
   have hxl : xs.length = n := by simpa using Lib.mapM_length hm
   have hvl : vs.length = n := by
    have h1 := congrArg List.length hxs
    have h2 := congrArg List.length hv
    simp at h1 h2
    omega
   apply List.ext_getElem?
   intro i
   by_cases hi : i < n
   ·obtain ⟨b, hb, hf⟩ := Lib.mapM_at hm i i (by simp [hi])
    obtain ⟨v, hv1, hv2⟩ := AmH he hf
    have h1 : cs[i]? = some v := by
     have := congrArg (·[0]?) hv2
     simpa [List.getElem?_take, List.getElem?_drop] using this
    have h2 : ds[i]? = some b.1 := by rw [← hxs]; simp [hb]
    have h3 : (ds.map ABR)[i]? = some (some v) := by simp [h2, hv1]
    rw [hv] at h3
    simp only [List.getElem?_map, Option.map_eq_some_iff, Option.some.injEq] at h3
    obtain ⟨u, hu, rfl⟩ := h3
    rw [h1, hu]
   ·rw [List.getElem?_eq_none (by omega), List.getElem?_eq_none (by omega)]
  ·cases h
theorem An7 {name : String} {d : DataW Unit} : ∀ {laid : List (String × DataW Unit)} {ps : List MemPlace}, DataW.LaidVars P w laid ps → (name, d) ∈ laid →
  ∃ g t cs fuel p, P.globalNamed name = some g ∧ (P.globals[g]?).map (·.type) = some t ∧ w.var? P name = some cs ∧ DataW.trod (fun _ => ()) P w 0 (fun _ => true) false fuel t cs.toList = some (d, p)
 | [], ps, _, hm => by simp at hm
 | (n, d') :: r, ps, h, hm => by
  obtain ⟨g, t, cs, fuel, p, q, h1, h2, h3, h4, h5, _⟩ := h
  rcases List.mem_cons.1 hm with e | hm
  ·cases e; exact ⟨g, t, cs, fuel, p, h1, h2, h3, h4⟩
  ·exact An7 h5 hm
theorem AjP {laid : List (String × DataW Unit)} (h : laidMet P laid w) {name : String} {ds : List (DataW Unit)} (hm : (name, DataW.agg ds) ∈ laid) {g : Nat} {t e : TypeId} {n : Nat} {vs : List Value} (hg : P.globalNamed name = some g) (hty : (P.globals[g]?).map (·.type) = some t)
  (ht : P.underlying t = some (.array n e)) (he : AsQ P e = true) (hce : P.cellsOf e = 1) (hct : P.cellsOf t = n) (hv : ds.map ABR = vs.map some) : ∃ tt fr, w.heap[g]? = some (.cells vs.toArray tt fr) := by
 obtain ⟨ps, h, _⟩ := h
 obtain ⟨g', t', cs, fuel, p, h1, h2, h3, h4⟩ := An7 h hm
 obtain rfl := Option.some.inj (hg.symm.trans h1)
 obtain rfl := Option.some.inj (hty.symm.trans h2)
 have := Aml ht he hce hct hv h4
 have e : cs = vs.toArray := by rw [← this, Array.toArray_toList]
 rw [e] at h3
 exact Aj1 hg h3
end
end Go.Proofs.YtliaddbbmnfioaaGreatDoor


namespace Go.Proofs.YtliaddbbmnfioaaGreatDoor
open Go.RowKit Go.WideShapes Go.ChangeShapes
section
variable {H : Type} {enc : TypeId × Value → H}
theorem AfJ {a : Assume} {C : Checked} {os : Os} {f : FuncId} {fn : Func} {s : ChangeSpec} {conds : List PathCond} {apart fresh handsOn again : Bool} {X : World → Array Value → Prop}
  (hX : ∀ (w w' : World) (args : Array Value), w.heap = w'.heap → X w args → X w' args)
  (own : ownKnob C.prog.godebug = none) (started : os.Started) (noInit : C.prog.inits.idxOf? f = none) (hfn : C.prog.funcs[f]? = some fn)
  (witness : ∃ (w : World) (tape : Tape) (i : Input), w.os = os ∧ (w.forCall tape i).Shaped C.prog ∧ i.vars = [] ∧ Input.okWide C.prog (w.forCall tape i) .any w.heap.size f i ∧
   ((s.pre enc C.prog fn conds apart (w.forCall tape i).memory i.args ∧ X (w.forCall tape i).memory i.args) ∧ sizedMet enc C.prog fn (OpenSpec.ofChange s) apart (w.forCall tape i).memory i.args) ∧ a.holds C.prog (lone (Frame.enter C.prog f i.args .normal) [] (w.forCall tape i)))
  (contract : ∀ (W : World) (base : Nat) (args : Array Value) (ds gs : List (DataW H)) (before : List MemPlace),
   (∀ (j : Nat) t v, fn.params[j]? = some t → args[j]? = some v → Value.okWide C.prog W .any base t v) →
   DataW.Whole enc C.prog fn.params.toList s.vars apart W args.toList ds gs before →
   conds.all (PathCond.test C.prog ⟨fn.params.toList, ds, s.plain.varTypes C.prog, gs⟩) = true →
   (DataW.weightsEach C.prog (fn.params.toList ++ s.plain.varTypes C.prog) (ds ++ gs)).all (· ≤ reachBytes) = true → X W args →
   W.ShapedOpen C.prog →
   a.holds C.prog (lone (Frame.enter C.prog f args .normal) [] W) →
   Calls C.prog f args W fun e W' => ∃ v, e = .returned v ∧ s.post enc C.prog fn apart fresh handsOn again W args v W') :
  ReturnsInHanded a C os f .any (fun w args => (s.pre enc C.prog fn conds apart w args ∧ X w args) ∧ sizedMet enc C.prog fn (OpenSpec.ofChange s) apart w args) (s.post enc C.prog fn apart fresh handsOn again) := by
 refine returnsInHanded_of_calls own started noInit witness ?_
 intro w tape i _ hsh _ hok hpre hholds
 obtain ⟨_, _, _, fn', hfn', _, _, _, _, hval⟩ := hok
 have e : fn' = fn := Option.some.inj (hfn'.symm.trans hfn)
 subst e
 obtain ⟨⟨⟨ds, gs, before, hw, hc⟩, hx⟩, hz⟩ := hpre
 have hw' := DataW.Whole.of_heap (w' := w.forCall tape i) (by rfl) hw
 refine (contract (w.forCall tape i) w.heap.size i.args ds gs before hval hw' hc (hz.weights hw) (hX _ _ _ (by rfl) hx) hsh hholds).mono fun e W' ⟨v, he, hp⟩ => ?_
 subst he
 exact ChangeSpec.post_blind hp
end
theorem Aj4 {P : Program} {w : World} {g : Nat} {t : TypeId} {zero : Array Value} {k : IntKind} (h : w.ShapedOpen P) (hg : g < P.globals.size)
  (h0 : ((begin P (fun _ _ => 0) default).world.heap[g]?).bind Obj.row? = some (zero, t)) (hz : zero.size = 1)
  (hb : P.buildable t = true) (hc : P.cellTypes P.depth t = some [t]) (hu : P.underlying t = some (.int k)) : ∃ m tt fr, w.heap[g]? = some (.cells #[.int k m] tt fr) := by
 obtain ⟨m, hm⟩ := cell_of_shapedOpen_int h hg h0 hz hb hc hu
 obtain ⟨cs, hh, hs, _⟩ := h.1 g zero t hg h0
 have h1 : cs[0]? = some (.int k m) := by simpa [World.cell?, hh] using hm
 have e : cs = #[.int k m] := by
  apply Array.ext
  ·rw [hs, hz]; rfl
  ·intro i h2 h3
   have hi : i = 0 := by simpa using h3
   subst hi
   have := (Array.getElem?_eq_some_iff.1 h1).2
   simpa using this
 rw [e] at hh
 exact ⟨m, _, _, hh⟩
end Go.Proofs.YtliaddbbmnfioaaGreatDoor


namespace Go.Proofs.YtliaddbbmnfioaaGreatDoor
variable [Bf]
set_option linter.unusedSectionVars false
set_option linter.unusedVariables false
set_option linter.defProp false
set_option maxRecDepth 100000

def Me : Af := .seq (.ops [po_ 55 (.bin 3 .lss (.t 54) (.t 53))] [1, 4, 6, 8, 52, 53, 54, 55])
 (.seq (.cond (.t 55)
 (.skip)
 (.exit 0))
 (.seq (.block 1 (.seq (.ops [po_ 56 (.idxA 20 (.t 52) (.t 54)),
  po_ 57 (.load true 20 (.t 56)),
  so_ 10 (.alloc (.arr 20 1 [.val (.int .u8 ((0 : Nat) : Int)), .val (.int .u8 ((0 : Nat) : Int)), .val (.int .u8 ((0 : Nat) : Int)), .val (.int .u8 ((0 : Nat) : Int)), .val (.int .u8 ((0 : Nat) : Int)), .val (.int .u8 ((0 : Nat) : Int)), .val (.int .u8 ((0 : Nat) : Int)), .val (.int .u8 ((0 : Nat) : Int)), .val (.int .u8 ((0 : Nat) : Int)), .val (.int .u8 ((0 : Nat) : Int)), .val (.int .u8 ((0 : Nat) : Int)), .val (.int .u8 ((0 : Nat) : Int)), .val (.int .u8 ((0 : Nat) : Int)), .val (.int .u8 ((0 : Nat) : Int)), .val (.int .u8 ((0 : Nat) : Int)), .val (.int .u8 ((0 : Nat) : Int)), .val (.int .u8 ((0 : Nat) : Int)), .val (.int .u8 ((0 : Nat) : Int)), .val (.int .u8 ((0 : Nat) : Int)), .val (.int .u8 ((0 : Nat) : Int))])),
  ⟨none, .s (.store 20 (.t 10) (.t 57)), none⟩] [1, 4, 6, 8, 10, 52, 53, 54])
 (.ops [mv_ 58 8,
  po_ 59 (.load true 20 (.t 10)),
  so_ 60 (.call 30 [.t 59]),
  ⟨some 61, .s (.bslice 1 2 (.val (.string (str []))) [⟨0, .c (.string (str [112, 97, 114, 101, 110, 116]))⟩, ⟨1, .t 60⟩]), none⟩,
  so_ 62 (.app 1 16 9 (.t 58) (.t 61)),
  mv_ 8 62] [1, 4, 6, 8, 52, 53, 54])))
 (.ops [po_ 63 (.bin 3 .add (.t 54) (ci_ 1)),
  mv_ 54 63] [1, 4, 6, 8, 52, 53, 54])))
def J6 : Af := .block 0 (.own 8 1 (.loop [1, 4, 6, 8, 52, 53, 54] Me))
def L9 : Af := .seq (.ops [mv_ 64 8,
  mv_ 65 4,
  mv_ 66 6,
  ⟨some 67, .s (.bslice 1 4 (.val (.string (str []))) [⟨0, .c (.string (str [97, 117, 116, 104, 111, 114]))⟩, ⟨1, .t 65⟩, ⟨2, .c (.string (str [99, 111, 109, 109, 105, 116, 116, 101, 114]))⟩, ⟨3, .t 66⟩]), none⟩,
  so_ 68 (.app 1 16 9 (.t 64) (.t 67)),
  mv_ 8 68] [1, 8])
 (.seq (.draw 5 [mv_ 69 8,
  so_ 70 (.call 29 [.t 69]),
  po_ 71 (.bin 9 .add (.t 70) (.c (.string (str [10])))),
  po_ 72 (.fieldA 4 29 (.t 1)),
  po_ 73 (.load false 1 (.t 72)),
  po_ 74 (.bin 9 .add (.t 71) (.t 73)),
  so_ 75 (.s2b (.t 74)),
  mv_ 2 75,
  po_ 3 (.mov (.c .nilIface))] [2, 3])
 (.ret))
def LZ : Af := .seq (.seq (.ops [po_ 51 (.fieldA 1 20 (.t 1)),
  po_ 52 (.load false 1 (.t 51)),
  po_ 53 (.lenV (.t 52)),
  po_ 54 (.mov (ci_ 0))] [1, 4, 6, 8, 52, 53, 54])
 J6)
 L9
def JS : Af := .seq (.ops [po_ 47 (.fieldA 0 0 (.t 1)),
  po_ 48 (.load true 20 (.t 47)),
  so_ 49 (.call 30 [.t 48]),
  ⟨some 50, .s (.bslice 1 2 (.val (.string (str []))) [⟨0, .c (.string (str [116, 114, 101, 101]))⟩, ⟨1, .t 49⟩]), none⟩,
  mv_ 8 50] [1, 4, 6, 8])
 LZ
def JE : Af := .seq (.seq (.ops [mv_ 23 5,
  po_ 24 (.un .not (.t 23)),
  mv_ 25 24,
  ⟨some 26, .p (.mov (.t 7)), some ⟨25, false⟩⟩,
  ⟨some 27, .p (.un .not (.t 26)), some ⟨25, false⟩⟩,
  po_ 28 (.pick (.t 25) (.c (.bool true)) (.t 27)),
  mv_ 29 28,
  ⟨some 30, .p (.fieldA 4 29 (.t 1)), some ⟨29, false⟩⟩,
  ⟨some 31, .p (.load false 1 (.t 30)), some ⟨29, false⟩⟩,
  ⟨some 32, .s (.call 28 [.t 31]), some ⟨29, false⟩⟩,
  ⟨some 33, .p (.un .not (.t 32)), some ⟨29, false⟩⟩,
  po_ 34 (.pick (.t 29) (.c (.bool true)) (.t 33)),
  mv_ 35 34,
  ⟨some 36, .p (.fieldA 1 20 (.t 1)), some ⟨35, false⟩⟩,
  ⟨some 37, .p (.load false 1 (.t 36)), some ⟨35, false⟩⟩,
  ⟨some 38, .p (.lenV (.t 37)), some ⟨35, false⟩⟩,
  ⟨some 39, .p (.bin 3 .gtr (.t 38) (ci_ 8)), some ⟨35, false⟩⟩,
  po_ 40 (.pick (.t 35) (.c (.bool true)) (.t 39)),
  mv_ 41 40,
  ⟨some 42, .p (.fieldA 1 20 (.t 1)), some ⟨41, false⟩⟩,
  ⟨some 43, .p (.load false 1 (.t 42)), some ⟨41, false⟩⟩,
  ⟨some 44, .s (.call 42 [.t 43]), some ⟨41, false⟩⟩,
  po_ 45 (.pick (.t 41) (.c (.bool true)) (.t 44))] [1, 4, 6, 45])
 (.cond (.t 45)
 (.seq (.ops [po_ 46 (.iface 34 (ci_ 22)),
   po_ 2 (.mov (.c (.slice none 0 0))),
   mv_ 3 46] [2, 3])
  (.ret))
 (.skip)))
 JS
def JP : Af := .seq (.ops [po_ 18 (.fieldA 3 25 (.t 1)),
  po_ 19 (.load true 4 (.t 18)),
  so_ 20 (.call 26 [.t 19]),
  mv_ 17 20,
  po_ 21 (.ext 0 (.t 17)),
  po_ 22 (.ext 1 (.t 17)),
  mv_ 6 21,
  mv_ 7 22] [1, 4, 5, 6, 7])
 JE
def KQ : Af := .seq (.ops [po_ 12 (.fieldA 2 21 (.t 1)),
  po_ 13 (.load true 4 (.t 12)),
  so_ 14 (.call 26 [.t 13]),
  mv_ 11 14,
  po_ 15 (.ext 0 (.t 11)),
  po_ 16 (.ext 1 (.t 11)),
  mv_ 4 15,
  mv_ 5 16] [1, 4, 5])
 JP
def QV : Af := .seq (.ops [so_ 1 (.box (.t 0)),
  po_ 2 (.mov (.c (.slice none 0 0))),
  po_ 3 (.mov (.c .nilIface))] [1])
 KQ
def Ri : List VR := [.tmp 2, .tmp 3]
theorem Abt : Tryz.f13.body.bind (trC Tryz.prog Tryz.f13.ntmps) = some (er QV) := by kernel_rfl
theorem Abz : trR Tryz.prog Tryz.f13.results.toList = some Ri := by kernel_rfl
def IL := Aa Me.eq_1
def UA := Aa J6.eq_1
def U0 := Aa L9.eq_1
def UO := Aa LZ.eq_1
def Vb := Aa JS.eq_1
def Fq := Aa JE.eq_1
def Un := Aa JP.eq_1
def U1 := Aa KQ.eq_1
def ZK := Aa QV.eq_1
theorem CJ {K : TV → Prop} {e : Env} {H : List Ob} : res Ri e H K = res [.tmp 2, .tmp 3] e H K := Ac rfl
def AaM := DD 76 Tryz.func13 Abt Abz rfl

def Oa : Af := .block 1 (.seq (.ops [mv_ 18 4,
  so_ 19 (.call 79 [.t 18, .c (.string (str [112, 97, 114, 101, 110, 116]))]),
  mv_ 17 19,
  po_ 20 (.ext 0 (.t 17)),
  po_ 21 (.ext 1 (.t 17)),
  mv_ 6 20,
  mv_ 7 21] [2, 4, 5, 6, 7])
 (.seq (.seq (.ops [mv_ 22 7,
  po_ 23 (.un .not (.t 22))] [2, 4, 5, 6, 23])
 (.cond (.t 23)
 (.exit 0)
 (.skip)))
 (.sdraw 2 [po_ 24 (.fieldA 1 20 (.t 5)),
  po_ 25 (.load false 1 (.t 24)),
  mv_ 26 4,
  mv_ 27 6,
  so_ 28 (.call 71 [.t 26, .t 27]),
  ⟨some 29, .s (.bslice 20 1 (.arr 20 1 [.val (.int .u8 ((0 : Nat) : Int)), .val (.int .u8 ((0 : Nat) : Int)), .val (.int .u8 ((0 : Nat) : Int)), .val (.int .u8 ((0 : Nat) : Int)), .val (.int .u8 ((0 : Nat) : Int)), .val (.int .u8 ((0 : Nat) : Int)), .val (.int .u8 ((0 : Nat) : Int)), .val (.int .u8 ((0 : Nat) : Int)), .val (.int .u8 ((0 : Nat) : Int)), .val (.int .u8 ((0 : Nat) : Int)), .val (.int .u8 ((0 : Nat) : Int)), .val (.int .u8 ((0 : Nat) : Int)), .val (.int .u8 ((0 : Nat) : Int)), .val (.int .u8 ((0 : Nat) : Int)), .val (.int .u8 ((0 : Nat) : Int)), .val (.int .u8 ((0 : Nat) : Int)), .val (.int .u8 ((0 : Nat) : Int)), .val (.int .u8 ((0 : Nat) : Int)), .val (.int .u8 ((0 : Nat) : Int)), .val (.int .u8 ((0 : Nat) : Int))]) [⟨0, .t 28⟩]), none⟩,
  so_ 30 (.app 20 20 23 (.t 25) (.t 29)),
  po_ 31 (.fieldA 1 20 (.t 5)),
  ⟨none, .s (.store 1 (.t 31) (.t 30)), none⟩] [2, 4, 5])))
def Np : Af := .seq (.seq (.ops [mv_ 41 4,
  po_ 42 (.nilc (.t 41)),
  po_ 43 (.fieldA 1 1 (.t 42)),
  po_ 44 (.load false 1 (.t 43)),
  mv_ 45 44,
  ⟨some 46, .p (.fieldA 1 20 (.t 5)), some ⟨45, false⟩⟩,
  ⟨some 47, .p (.load false 1 (.t 46)), some ⟨45, false⟩⟩,
  ⟨some 48, .p (.lenV (.t 47)), some ⟨45, false⟩⟩,
  ⟨some 49, .p (.bin 3 .gtr (.t 48) (ci_ 8)), some ⟨45, false⟩⟩,
  po_ 50 (.pick (.t 45) (.c (.bool true)) (.t 49)),
  mv_ 51 50,
  ⟨some 52, .p (.fieldA 1 20 (.t 5)), some ⟨51, false⟩⟩,
  ⟨some 53, .p (.load false 1 (.t 52)), some ⟨51, false⟩⟩,
  ⟨some 54, .s (.call 42 [.t 53]), some ⟨51, false⟩⟩,
  po_ 55 (.pick (.t 51) (.c (.bool true)) (.t 54))] [2, 5, 55])
 (.cond (.t 55)
 (.seq (.ops [po_ 56 (.build [.arr 20 1 [.val (.int .u8 ((0 : Nat) : Int)), .val (.int .u8 ((0 : Nat) : Int)), .val (.int .u8 ((0 : Nat) : Int)), .val (.int .u8 ((0 : Nat) : Int)), .val (.int .u8 ((0 : Nat) : Int)), .val (.int .u8 ((0 : Nat) : Int)), .val (.int .u8 ((0 : Nat) : Int)), .val (.int .u8 ((0 : Nat) : Int)), .val (.int .u8 ((0 : Nat) : Int)), .val (.int .u8 ((0 : Nat) : Int)), .val (.int .u8 ((0 : Nat) : Int)), .val (.int .u8 ((0 : Nat) : Int)), .val (.int .u8 ((0 : Nat) : Int)), .val (.int .u8 ((0 : Nat) : Int)), .val (.int .u8 ((0 : Nat) : Int)), .val (.int .u8 ((0 : Nat) : Int)), .val (.int .u8 ((0 : Nat) : Int)), .val (.int .u8 ((0 : Nat) : Int)), .val (.int .u8 ((0 : Nat) : Int)), .val (.int .u8 ((0 : Nat) : Int))], .val (.slice none 0 0), .agg [.val (.string (str [])), .val (.string (str [])), .val (.int .i64 ((0 : Nat) : Int)), .val (.int .i64 ((0 : Nat) : Int))], .agg [.val (.string (str [])), .val (.string (str [])), .val (.int .i64 ((0 : Nat) : Int)), .val (.int .i64 ((0 : Nat) : Int))], .val (.string (str []))] [20, 1, 4, 4, 1] []),
   po_ 57 (.iface 34 (ci_ 22)),
   ⟨none, .s (.store 30 (.t 2) (.t 56)), none⟩,
   mv_ 3 57] [2, 3])
  (.ret))
 (.skip)))
 (.seq (.ops [po_ 58 (.load true 30 (.t 5)),
  ⟨none, .s (.store 30 (.t 2) (.t 58)), none⟩,
  po_ 3 (.mov (.c .nilIface))] [2, 3])
 (.ret))
def NQ : Af := .seq (.ops [mv_ 38 4,
  so_ 39 (.call 75 [.t 38]),
  po_ 40 (.fieldA 4 29 (.t 5)),
  ⟨none, .s (.store 1 (.t 40) (.t 39)), none⟩] [2, 4, 5])
 Np
def Nh : Af := .seq (.ops [mv_ 32 4,
  so_ 33 (.call 74 [.t 32, .c (.string (str [97, 117, 116, 104, 111, 114]))]),
  mv_ 34 4,
  so_ 35 (.call 74 [.t 34, .c (.string (str [99, 111, 109, 109, 105, 116, 116, 101, 114]))]),
  po_ 36 (.fieldA 2 21 (.t 5)),
  ⟨none, .s (.store 4 (.t 36) (.t 33)), none⟩,
  po_ 37 (.fieldA 3 25 (.t 5)),
  ⟨none, .s (.store 4 (.t 37) (.t 35)), none⟩] [2, 4, 5])
 NQ
def NC : Af := .seq (.block 0 (.ownB 5 [(1, 20)] 20 (.loop [2, 4, 5] Oa)))
 Nh
def MH : Af := .seq (.ops [mv_ 12 4,
  mv_ 13 4,
  so_ 14 (.call 72 [.t 13, .c (.string (str [116, 114, 101, 101]))]),
  so_ 15 (.call 71 [.t 12, .t 14]),
  po_ 16 (.fieldA 0 0 (.t 5)),
  ⟨none, .s (.store 20 (.t 16) (.t 15)), none⟩] [2, 4, 5])
 NC
def NK : Af := .seq (.ops [so_ 5 (.alloc (.agg [.arr 20 1 [.val (.int .u8 ((0 : Nat) : Int)), .val (.int .u8 ((0 : Nat) : Int)), .val (.int .u8 ((0 : Nat) : Int)), .val (.int .u8 ((0 : Nat) : Int)), .val (.int .u8 ((0 : Nat) : Int)), .val (.int .u8 ((0 : Nat) : Int)), .val (.int .u8 ((0 : Nat) : Int)), .val (.int .u8 ((0 : Nat) : Int)), .val (.int .u8 ((0 : Nat) : Int)), .val (.int .u8 ((0 : Nat) : Int)), .val (.int .u8 ((0 : Nat) : Int)), .val (.int .u8 ((0 : Nat) : Int)), .val (.int .u8 ((0 : Nat) : Int)), .val (.int .u8 ((0 : Nat) : Int)), .val (.int .u8 ((0 : Nat) : Int)), .val (.int .u8 ((0 : Nat) : Int)), .val (.int .u8 ((0 : Nat) : Int)), .val (.int .u8 ((0 : Nat) : Int)), .val (.int .u8 ((0 : Nat) : Int)), .val (.int .u8 ((0 : Nat) : Int))], .val (.slice none 0 0), .agg [.val (.string (str [])), .val (.string (str [])), .val (.int .i64 ((0 : Nat) : Int)), .val (.int .i64 ((0 : Nat) : Int))], .agg [.val (.string (str [])), .val (.string (str [])), .val (.int .i64 ((0 : Nat) : Int)), .val (.int .i64 ((0 : Nat) : Int))], .val (.string (str []))]))] [2, 4, 5])
 MH
def MZ : Af := .seq (.ops [mv_ 8 0,
  po_ 9 (.b2s (.t 8)),
  ⟨some 10, .p (.build [.val (.string (str [])), .val (.bool false)] [1, 1] [⟨0, .t 9⟩]), none⟩,
  so_ 11 (.box (.t 10)),
  mv_ 4 11] [2, 4])
 NK
def SI : Af := .seq (.ops [so_ 2 (.alloc (.agg [.arr 20 1 [.val (.int .u8 ((0 : Nat) : Int)), .val (.int .u8 ((0 : Nat) : Int)), .val (.int .u8 ((0 : Nat) : Int)), .val (.int .u8 ((0 : Nat) : Int)), .val (.int .u8 ((0 : Nat) : Int)), .val (.int .u8 ((0 : Nat) : Int)), .val (.int .u8 ((0 : Nat) : Int)), .val (.int .u8 ((0 : Nat) : Int)), .val (.int .u8 ((0 : Nat) : Int)), .val (.int .u8 ((0 : Nat) : Int)), .val (.int .u8 ((0 : Nat) : Int)), .val (.int .u8 ((0 : Nat) : Int)), .val (.int .u8 ((0 : Nat) : Int)), .val (.int .u8 ((0 : Nat) : Int)), .val (.int .u8 ((0 : Nat) : Int)), .val (.int .u8 ((0 : Nat) : Int)), .val (.int .u8 ((0 : Nat) : Int)), .val (.int .u8 ((0 : Nat) : Int)), .val (.int .u8 ((0 : Nat) : Int)), .val (.int .u8 ((0 : Nat) : Int))], .val (.slice none 0 0), .agg [.val (.string (str [])), .val (.string (str [])), .val (.int .i64 ((0 : Nat) : Int)), .val (.int .i64 ((0 : Nat) : Int))], .agg [.val (.string (str [])), .val (.string (str [])), .val (.int .i64 ((0 : Nat) : Int)), .val (.int .i64 ((0 : Nat) : Int))], .val (.string (str []))])),
  po_ 3 (.mov (.c .nilIface))] [0, 2])
 MZ
def SX : List VR := [.cell 2 true 30, .tmp 3]
theorem AcS : Tryz.f43.body.bind (trC Tryz.prog Tryz.f43.ntmps) = some (er SI) := by kernel_rfl
theorem Ada : trR Tryz.prog Tryz.f43.results.toList = some SX := by kernel_rfl
def Xc := Aa Oa.eq_1
def Gu := Aa Np.eq_1
def XF := Aa NQ.eq_1
def XH := Aa Nh.eq_1
def Vr := Aa NC.eq_1
def WC := Aa MH.eq_1
def VZ := Aa NK.eq_1
def Xt := Aa MZ.eq_1
def Aaa := Aa SI.eq_1
theorem Fb {K : TV → Prop} {e : Env} {H : List Ob} : res SX e H K = res [.cell 2 true 30, .tmp 3] e H K := Ac rfl
def AbC := DD 59 Tryz.func43 AcS Ada rfl

def VG : Af := .seq (.block 1 (.seq (.ops [po_ 11 (.idxA 20 (.t 7) (.t 9)),
  po_ 12 (.load true 20 (.t 11)),
  so_ 5 (.alloc (.arr 20 1 [.val (.int .u8 ((0 : Nat) : Int)), .val (.int .u8 ((0 : Nat) : Int)), .val (.int .u8 ((0 : Nat) : Int)), .val (.int .u8 ((0 : Nat) : Int)), .val (.int .u8 ((0 : Nat) : Int)), .val (.int .u8 ((0 : Nat) : Int)), .val (.int .u8 ((0 : Nat) : Int)), .val (.int .u8 ((0 : Nat) : Int)), .val (.int .u8 ((0 : Nat) : Int)), .val (.int .u8 ((0 : Nat) : Int)), .val (.int .u8 ((0 : Nat) : Int)), .val (.int .u8 ((0 : Nat) : Int)), .val (.int .u8 ((0 : Nat) : Int)), .val (.int .u8 ((0 : Nat) : Int)), .val (.int .u8 ((0 : Nat) : Int)), .val (.int .u8 ((0 : Nat) : Int)), .val (.int .u8 ((0 : Nat) : Int)), .val (.int .u8 ((0 : Nat) : Int)), .val (.int .u8 ((0 : Nat) : Int)), .val (.int .u8 ((0 : Nat) : Int))])),
  ⟨none, .s (.store 20 (.t 5) (.t 12)), none⟩] [3, 5, 7, 8, 9])
 (.seq (.draw 4 [mv_ 13 3,
  po_ 14 (.load true 20 (.t 5)),
  po_ 15 (.gen (.look (.arr 20) (.val (.int .i64 ((0 : Nat) : Int))) false) [.t 13, .t 14]),
  po_ 16 (.bin 3 .add (.t 15) (ci_ 1)),
  so_ 17 (.ment (.arr 20) (.val (.int .i64 ((0 : Nat) : Int))) (.t 13) (.t 14)),
  po_ 18 (.ext 1 (.t 17)),
  ⟨none, .s (.mest (.t 13) (.t 18) (.t 16)), none⟩] [3, 5, 7, 8, 9])
 (.seq (.ops [mv_ 19 3,
  po_ 20 (.load true 20 (.t 5)),
  po_ 21 (.gen (.look (.arr 20) (.val (.int .i64 ((0 : Nat) : Int))) false) [.t 19, .t 20]),
  po_ 22 (.bin 3 .gtr (.t 21) (ci_ 1))] [3, 7, 8, 9, 22])
 (.cond (.t 22)
 (.seq (.ops [po_ 2 (.mov (.c (.bool true)))] [2])
  (.ret))
 (.skip))))))
 (.ops [po_ 23 (.bin 3 .add (.t 9) (ci_ 1)),
  mv_ 9 23] [3, 7, 8, 9])
def Xj : Af := .seq (.cond (.t 10)
 (.skip)
 (.exit 0))
 VG
def Vu : Af := .seq (.ops [po_ 10 (.bin 3 .lss (.t 9) (.t 8))] [3, 7, 8, 9, 10])
 Xj
def Wl : Af := .block 0 (.loop [3, 7, 8, 9] Vu)
def Wq : Af := .seq (.ops [po_ 2 (.mov (.c (.bool false)))] [2])
 (.ret)
def Xw : Af := .seq (.seq (.ops [mv_ 7 0,
  po_ 8 (.lenV (.t 7)),
  po_ 9 (.mov (ci_ 0))] [3, 7, 8, 9])
 Wl)
 Wq
def Vy : Af := .seq (.ops [so_ 6 (.mkm (.arr 20) none),
  mv_ 3 6] [0, 3])
 Xw
def Acn : Af := .seq (.ops [po_ 2 (.mov (.c (.bool false)))] [0])
 Vy
def Acf : List VR := [.tmp 2]
theorem AiD : Tryz.f42.body.bind (trC Tryz.prog Tryz.f42.ntmps) = some (er Acn) := by kernel_rfl
theorem Aia : trR Tryz.prog Tryz.f42.results.toList = some Acf := by kernel_rfl
def AdI := Aa VG.eq_1
def RX := Aa Xj.eq_1
def SB := Aa Vu.eq_1
def AcG := Aa Wl.eq_1
def Ac9 := Aa Wq.eq_1
def Aco := Aa Xw.eq_1
def Acp := Aa Vy.eq_1
def AgX := Aa Acn.eq_1
theorem Zm {K : TV → Prop} {e : Env} {H : List Ob} : res Acf e H K = res [.tmp 2] e H K := Ac rfl
def AhE := DD 24 Tryz.func42 AiD Aia rfl

def Qb : Af := .seq (.block 3 (.seq (.draw 5 [po_ 60 (.fieldA 1 20 (.t 1)),
  po_ 61 (.load false 1 (.t 60)),
  mv_ 62 11,
  po_ 63 (.idxA 20 (.t 61) (.t 62)),
  po_ 64 (.load true 20 (.t 63)),
  po_ 65 (.fieldA 1 20 (.t 1)),
  po_ 66 (.load false 1 (.t 65)),
  mv_ 67 10,
  po_ 68 (.idxA 20 (.t 66) (.t 67)),
  po_ 69 (.load true 20 (.t 68)),
  po_ 70 (.gen (.eqA 20 false) [.t 64, .t 69])] [1, 4, 6, 9, 10, 11, 70])
 (.cond (.t 70)
 (.seq (.ops [po_ 2 (.mov (.c (.slice none 0 0))),
   po_ 3 (.mov (ci_ 22))] [2, 3])
  (.ret))
 (.skip))))
 (.ops [mv_ 58 11,
  po_ 59 (.bin 3 .add (.t 58) (ci_ 1)),
  mv_ 11 59] [1, 4, 6, 9, 10, 11])
def Pn : Af := .seq (.seq (.ops [mv_ 55 11,
  mv_ 56 10,
  po_ 57 (.bin 3 .lss (.t 55) (.t 56))] [1, 4, 6, 9, 10, 11, 57])
 (.cond (.t 57)
 (.skip)
 (.exit 2)))
 Qb
def Qq : Af := .block 2 (.loop [1, 4, 6, 9, 10, 11] Pn)
def Pi : Af := .ops [mv_ 71 9,
  po_ 72 (.bin 9 .add (.t 71) (.c (.string (str [112, 97, 114, 101, 110, 116, 32])))),
  po_ 73 (.fieldA 1 20 (.t 1)),
  po_ 74 (.load false 1 (.t 73)),
  mv_ 75 10,
  po_ 76 (.idxA 20 (.t 74) (.t 75)),
  po_ 77 (.load true 20 (.t 76)),
  so_ 78 (.call 36 [.t 77]),
  po_ 79 (.bin 9 .add (.t 72) (.t 78)),
  po_ 80 (.bin 9 .add (.t 79) (.c (.string (str [10])))),
  mv_ 9 80] [1, 4, 6, 9, 10]
def O4 : Af := .ops [mv_ 53 10,
  po_ 54 (.bin 3 .add (.t 53) (ci_ 1)),
  mv_ 10 54] [1, 4, 6, 9, 10]
def O8 : Af := .seq (.block 1 (.seq (.seq (.ops [po_ 11 (.mov (ci_ 0))] [1, 4, 6, 9, 10, 11])
 Qq)
 Pi))
 O4
def Ql : Af := .seq (.seq (.ops [mv_ 48 10,
  po_ 49 (.fieldA 1 20 (.t 1)),
  po_ 50 (.load false 1 (.t 49)),
  po_ 51 (.lenV (.t 50)),
  po_ 52 (.bin 3 .lss (.t 48) (.t 51))] [1, 4, 6, 9, 10, 52])
 (.cond (.t 52)
 (.skip)
 (.exit 0)))
 O8
def Po : Af := .block 0 (.loop [1, 4, 6, 9, 10] Ql)
def PE : Af := .seq (.ops [mv_ 81 9,
  po_ 82 (.bin 9 .add (.t 81) (.c (.string (str [97, 117, 116, 104, 111, 114, 32])))),
  mv_ 83 4,
  po_ 84 (.bin 9 .add (.t 82) (.t 83)),
  po_ 85 (.bin 9 .add (.t 84) (.c (.string (str [10, 99, 111, 109, 109, 105, 116, 116, 101, 114, 32])))),
  mv_ 86 6,
  po_ 87 (.bin 9 .add (.t 85) (.t 86)),
  po_ 88 (.bin 9 .add (.t 87) (.c (.string (str [10, 10])))),
  po_ 89 (.fieldA 4 29 (.t 1)),
  po_ 90 (.load false 1 (.t 89)),
  po_ 91 (.bin 9 .add (.t 88) (.t 90)),
  mv_ 9 91] [9])
 (.seq (.ops [mv_ 92 9,
  so_ 93 (.s2b (.t 92)),
  mv_ 2 93,
  po_ 3 (.mov (ci_ 0))] [2, 3])
 (.ret))
def ML : Af := .seq (.seq (.ops [po_ 10 (.mov (ci_ 0))] [1, 4, 6, 9, 10])
 Po)
 PE
def MV : Af := .seq (.ops [po_ 43 (.fieldA 0 0 (.t 1)),
  po_ 44 (.load true 20 (.t 43)),
  so_ 45 (.call 36 [.t 44]),
  po_ 46 (.bin 9 .add (.c (.string (str [116, 114, 101, 101, 32]))) (.t 45)),
  po_ 47 (.bin 9 .add (.t 46) (.c (.string (str [10])))),
  mv_ 9 47] [1, 4, 6, 9])
 ML
def NI : Af := .seq (.seq (.ops [po_ 27 (.fieldA 1 20 (.t 1)),
  po_ 28 (.load false 1 (.t 27)),
  po_ 29 (.lenV (.t 28)),
  po_ 30 (.bin 3 .gtr (.t 29) (ci_ 8)),
  mv_ 31 30,
  ⟨some 32, .p (.mov (.t 5)), some ⟨31, false⟩⟩,
  ⟨some 33, .p (.un .not (.t 32)), some ⟨31, false⟩⟩,
  po_ 34 (.pick (.t 31) (.c (.bool true)) (.t 33)),
  mv_ 35 34,
  ⟨some 36, .p (.mov (.t 7)), some ⟨35, false⟩⟩,
  ⟨some 37, .p (.un .not (.t 36)), some ⟨35, false⟩⟩,
  po_ 38 (.pick (.t 35) (.c (.bool true)) (.t 37)),
  mv_ 39 38,
  ⟨some 40, .p (.mov (.t 8)), some ⟨39, false⟩⟩,
  ⟨some 41, .p (.un .not (.t 40)), some ⟨39, false⟩⟩,
  po_ 42 (.pick (.t 39) (.c (.bool true)) (.t 41))] [1, 4, 6, 42])
 (.cond (.t 42)
 (.seq (.ops [po_ 2 (.mov (.c (.slice none 0 0))),
   po_ 3 (.mov (ci_ 22))] [2, 3])
  (.ret))
 (.skip)))
 MV
def N9 : Af := .seq (.ops [po_ 24 (.fieldA 4 29 (.t 1)),
  po_ 25 (.load false 1 (.t 24)),
  so_ 26 (.call 34 [.t 25]),
  mv_ 8 26] [1, 4, 5, 6, 7, 8])
 NI
def Oc : Af := .seq (.ops [po_ 19 (.fieldA 3 25 (.t 1)),
  po_ 20 (.load true 4 (.t 19)),
  so_ 21 (.call 33 [.t 20]),
  mv_ 18 21,
  po_ 22 (.ext 0 (.t 18)),
  po_ 23 (.ext 1 (.t 18)),
  mv_ 6 22,
  mv_ 7 23] [1, 4, 5, 6, 7])
 N9
def MM : Af := .seq (.ops [po_ 13 (.fieldA 2 21 (.t 1)),
  po_ 14 (.load true 4 (.t 13)),
  so_ 15 (.call 33 [.t 14]),
  mv_ 12 15,
  po_ 16 (.ext 0 (.t 12)),
  po_ 17 (.ext 1 (.t 12)),
  mv_ 4 16,
  mv_ 5 17] [1, 4, 5])
 Oc
def Tv : Af := .seq (.ops [so_ 1 (.box (.t 0)),
  po_ 2 (.mov (.c (.slice none 0 0))),
  po_ 3 (.mov (ci_ 0))] [1])
 MM
def TN : List VR := [.tmp 2, .tmp 3]
theorem Aet : Tryz.f15.body.bind (trC Tryz.prog Tryz.f15.ntmps) = some (er Tv) := by kernel_rfl
theorem Aeb : trR Tryz.prog Tryz.f15.results.toList = some TN := by kernel_rfl
def Kt := Aa Qb.eq_1
def GR := Aa Pn.eq_1
def X5 := Aa Qq.eq_1
def YH := Aa Pi.eq_1
def Yp := Aa O4.eq_1
def YT := Aa O8.eq_1
def JG := Aa Ql.eq_1
def Yr := Aa Po.eq_1
def X4 := Aa PE.eq_1
def WT := Aa ML.eq_1
def VA := Aa MV.eq_1
def CX := Aa NI.eq_1
def WU := Aa N9.eq_1
def WI := Aa Oc.eq_1
def Xk := Aa MM.eq_1
def AbS := Aa Tv.eq_1
theorem Di {K : TV → Prop} {e : Env} {H : List Ob} : res TN e H K = res [.tmp 2, .tmp 3] e H K := Ac rfl
def AdC := DD 94 Tryz.func15 Aet Aeb rfl

def Q8 : Af := .seq (.ops [mv_ 51 10,
  so_ 52 (.call 77 [.t 51]),
  mv_ 50 52,
  po_ 53 (.ext 0 (.t 50)),
  po_ 54 (.ext 1 (.t 50)),
  ⟨none, .s (.store 20 (.t 8) (.t 53)), none⟩,
  mv_ 9 54] [0, 2, 4, 5, 8, 9])
 (.seq (.seq (.ops [mv_ 55 9,
  po_ 56 (.un .not (.t 55))] [0, 2, 4, 5, 8, 56])
 (.cond (.t 56)
 (.seq (.ops [po_ 57 (.load true 30 (.t 4)),
   ⟨none, .s (.store 30 (.t 2) (.t 57)), none⟩,
   po_ 3 (.mov (.c (.bool false)))] [2, 3])
  (.ret))
 (.skip)))
 (.ops [po_ 58 (.fieldA 1 20 (.t 4)),
  po_ 59 (.load false 1 (.t 58)),
  po_ 60 (.load true 20 (.t 8)),
  ⟨some 61, .s (.bslice 20 1 (.arr 20 1 [.val (.int .u8 ((0 : Nat) : Int)), .val (.int .u8 ((0 : Nat) : Int)), .val (.int .u8 ((0 : Nat) : Int)), .val (.int .u8 ((0 : Nat) : Int)), .val (.int .u8 ((0 : Nat) : Int)), .val (.int .u8 ((0 : Nat) : Int)), .val (.int .u8 ((0 : Nat) : Int)), .val (.int .u8 ((0 : Nat) : Int)), .val (.int .u8 ((0 : Nat) : Int)), .val (.int .u8 ((0 : Nat) : Int)), .val (.int .u8 ((0 : Nat) : Int)), .val (.int .u8 ((0 : Nat) : Int)), .val (.int .u8 ((0 : Nat) : Int)), .val (.int .u8 ((0 : Nat) : Int)), .val (.int .u8 ((0 : Nat) : Int)), .val (.int .u8 ((0 : Nat) : Int)), .val (.int .u8 ((0 : Nat) : Int)), .val (.int .u8 ((0 : Nat) : Int)), .val (.int .u8 ((0 : Nat) : Int)), .val (.int .u8 ((0 : Nat) : Int))]) [⟨0, .t 60⟩]), none⟩,
  so_ 62 (.app 20 20 22 (.t 59) (.t 61)),
  po_ 63 (.fieldA 1 20 (.t 4)),
  ⟨none, .s (.store 1 (.t 63) (.t 62)), none⟩] [0, 2, 4, 5, 8]))
def QN : Af := .seq (.ops [mv_ 49 11,
  mv_ 5 49] [0, 2, 4, 5, 8, 10])
 Q8
def Rq : Af := .seq (.seq (.ops [mv_ 47 12,
  po_ 48 (.un .not (.t 47))] [0, 2, 4, 5, 8, 10, 11, 48])
 (.cond (.t 48)
 (.exit 0)
 (.skip)))
 QN
def Ro : Af := .block 1 (.seq (.ops [mv_ 42 5,
  so_ 43 (.call 76 [.t 42, .c (.string (str [112, 97, 114, 101, 110, 116]))]),
  mv_ 41 43,
  po_ 44 (.ext 0 (.t 41)),
  po_ 45 (.ext 1 (.t 41)),
  po_ 46 (.ext 2 (.t 41)),
  mv_ 10 44,
  mv_ 11 45,
  mv_ 12 46] [0, 2, 4, 5, 8, 10, 11, 12])
 Rq)
def QM : Af := .seq (.sdraw 16 [po_ 113 (.load true 30 (.t 4)),
  mv_ 114 14,
  mv_ 115 114,
  ⟨some 116, .p (.mov (.t 16)), some ⟨115, true⟩⟩,
  po_ 117 (.pick (.t 115) (.t 116) (.c (.bool false))),
  mv_ 118 117,
  ⟨some 119, .p (.mov (.t 18)), some ⟨118, true⟩⟩,
  ⟨some 120, .p (.bin 3 .eql (.t 119) (ci_ 0)), some ⟨118, true⟩⟩,
  po_ 121 (.pick (.t 118) (.t 120) (.c (.bool false))),
  mv_ 122 121,
  ⟨some 123, .p (.mov (.t 17)), some ⟨122, true⟩⟩,
  ⟨some 124, .p (.b2s (.t 123)), some ⟨122, true⟩⟩,
  ⟨some 125, .p (.mov (.t 0)), some ⟨122, true⟩⟩,
  ⟨some 126, .p (.b2s (.t 125)), some ⟨122, true⟩⟩,
  ⟨some 127, .p (.bin 9 .eql (.t 124) (.t 126)), some ⟨122, true⟩⟩,
  po_ 128 (.pick (.t 122) (.t 127) (.c (.bool false))),
  ⟨none, .s (.store 30 (.t 2) (.t 113)), none⟩,
  mv_ 3 128] [2, 3])
 (.ret)
def QX : Af := .seq (.ops [po_ 109 (.load true 30 (.t 4)),
  so_ 110 (.call 15 [.t 109]),
  mv_ 108 110,
  po_ 111 (.ext 0 (.t 108)),
  po_ 112 (.ext 1 (.t 108)),
  mv_ 17 111,
  mv_ 18 112] [0, 2, 4, 14, 16, 17, 18])
 QM
def Rn : Af := .seq (.ops [mv_ 105 5,
  po_ 106 (.slS (.t 105) (some (ci_ 1)) none),
  po_ 107 (.fieldA 4 29 (.t 4)),
  ⟨none, .s (.store 1 (.t 107) (.t 106)), none⟩] [0, 2, 4, 14, 16])
 QX
def QU : Af := .seq (.ops [mv_ 100 15,
  so_ 101 (.call 78 [.t 100]),
  mv_ 99 101,
  po_ 102 (.ext 0 (.t 99)),
  po_ 103 (.ext 1 (.t 99)),
  po_ 104 (.fieldA 3 25 (.t 4)),
  ⟨none, .s (.store 4 (.t 104) (.t 102)), none⟩,
  mv_ 16 103] [0, 2, 4, 5, 14, 16])
 Rn
def Rt : Af := .seq (.ops [mv_ 94 13,
  so_ 95 (.call 78 [.t 94]),
  mv_ 93 95,
  po_ 96 (.ext 0 (.t 93)),
  po_ 97 (.ext 1 (.t 93)),
  po_ 98 (.fieldA 2 21 (.t 4)),
  ⟨none, .s (.store 4 (.t 98) (.t 96)), none⟩,
  mv_ 14 97] [0, 2, 4, 5, 14, 15])
 QU
def Ph : Af := .seq (.seq (.ops [mv_ 76 14,
  po_ 77 (.un .not (.t 76)),
  mv_ 78 77,
  ⟨some 79, .p (.mov (.t 16)), some ⟨78, false⟩⟩,
  ⟨some 80, .p (.un .not (.t 79)), some ⟨78, false⟩⟩,
  po_ 81 (.pick (.t 78) (.c (.bool true)) (.t 80)),
  mv_ 82 81,
  ⟨some 83, .p (.mov (.t 5)), some ⟨82, false⟩⟩,
  ⟨some 84, .p (.lenS (.t 83)), some ⟨82, false⟩⟩,
  ⟨some 85, .p (.bin 3 .lss (.t 84) (ci_ 1)), some ⟨82, false⟩⟩,
  po_ 86 (.pick (.t 82) (.c (.bool true)) (.t 85)),
  mv_ 87 86,
  ⟨some 88, .p (.mov (.t 5)), some ⟨87, false⟩⟩,
  ⟨some 89, .p (.idxS (.t 88) (ci_ 0)), some ⟨87, false⟩⟩,
  ⟨some 90, .p (.bin 5 .neq (.t 89) (.c (.int .u8 ((10 : Nat) : Int)))), some ⟨87, false⟩⟩,
  po_ 91 (.pick (.t 87) (.c (.bool true)) (.t 90))] [0, 2, 4, 5, 13, 15, 91])
 (.cond (.t 91)
 (.seq (.ops [po_ 92 (.load true 30 (.t 4)),
   ⟨none, .s (.store 30 (.t 2) (.t 92)), none⟩,
   po_ 3 (.mov (.c (.bool false)))] [2, 3])
  (.ret))
 (.skip)))
 Rt
def Qr : Af := .seq (.ops [mv_ 71 5,
  so_ 72 (.call 76 [.t 71, .c (.string (str [99, 111, 109, 109, 105, 116, 116, 101, 114]))]),
  mv_ 70 72,
  po_ 73 (.ext 0 (.t 70)),
  po_ 74 (.ext 1 (.t 70)),
  po_ 75 (.ext 2 (.t 70)),
  mv_ 15 73,
  mv_ 5 74,
  mv_ 16 75] [0, 2, 4, 5, 13, 14, 15, 16])
 Ph
def Pv : Af := .seq (.ops [mv_ 65 5,
  so_ 66 (.call 76 [.t 65, .c (.string (str [97, 117, 116, 104, 111, 114]))]),
  mv_ 64 66,
  po_ 67 (.ext 0 (.t 64)),
  po_ 68 (.ext 1 (.t 64)),
  po_ 69 (.ext 2 (.t 64)),
  mv_ 13 67,
  mv_ 5 68,
  mv_ 14 69] [0, 2, 4, 5, 13, 14])
 Qr
def PR : Af := .seq (.block 0 (.ownB 4 [(1, 20)] 20 (.loop [0, 2, 4, 5, 8] Ro)))
 Pv
def Pj : Af := .seq (.ops [po_ 39 (.load true 20 (.t 8)),
  po_ 40 (.fieldA 0 0 (.t 4)),
  ⟨none, .s (.store 20 (.t 40) (.t 39)), none⟩] [0, 2, 4, 5, 8])
 PR
def Qh : Af := .seq (.seq (.ops [mv_ 32 7,
  po_ 33 (.un .not (.t 32)),
  mv_ 34 33,
  ⟨some 35, .p (.mov (.t 9)), some ⟨34, false⟩⟩,
  ⟨some 36, .p (.un .not (.t 35)), some ⟨34, false⟩⟩,
  po_ 37 (.pick (.t 34) (.c (.bool true)) (.t 36))] [0, 2, 4, 5, 8, 37])
 (.cond (.t 37)
 (.seq (.ops [po_ 38 (.load true 30 (.t 4)),
   ⟨none, .s (.store 30 (.t 2) (.t 38)), none⟩,
   po_ 3 (.mov (.c (.bool false)))] [2, 3])
  (.ret))
 (.skip)))
 Pj
def Pm : Af := .seq (.ops [mv_ 28 6,
  so_ 29 (.call 77 [.t 28]),
  mv_ 27 29,
  po_ 30 (.ext 0 (.t 27)),
  po_ 31 (.ext 1 (.t 27)),
  so_ 8 (.alloc (.arr 20 1 [.val (.int .u8 ((0 : Nat) : Int)), .val (.int .u8 ((0 : Nat) : Int)), .val (.int .u8 ((0 : Nat) : Int)), .val (.int .u8 ((0 : Nat) : Int)), .val (.int .u8 ((0 : Nat) : Int)), .val (.int .u8 ((0 : Nat) : Int)), .val (.int .u8 ((0 : Nat) : Int)), .val (.int .u8 ((0 : Nat) : Int)), .val (.int .u8 ((0 : Nat) : Int)), .val (.int .u8 ((0 : Nat) : Int)), .val (.int .u8 ((0 : Nat) : Int)), .val (.int .u8 ((0 : Nat) : Int)), .val (.int .u8 ((0 : Nat) : Int)), .val (.int .u8 ((0 : Nat) : Int)), .val (.int .u8 ((0 : Nat) : Int)), .val (.int .u8 ((0 : Nat) : Int)), .val (.int .u8 ((0 : Nat) : Int)), .val (.int .u8 ((0 : Nat) : Int)), .val (.int .u8 ((0 : Nat) : Int)), .val (.int .u8 ((0 : Nat) : Int))])),
  ⟨none, .s (.store 20 (.t 8) (.t 30)), none⟩,
  mv_ 9 31] [0, 2, 4, 5, 7, 8, 9])
 Qh
def O9 : Af := .seq (.ops [mv_ 22 5,
  so_ 23 (.call 76 [.t 22, .c (.string (str [116, 114, 101, 101]))]),
  mv_ 21 23,
  po_ 24 (.ext 0 (.t 21)),
  po_ 25 (.ext 1 (.t 21)),
  po_ 26 (.ext 2 (.t 21)),
  mv_ 6 24,
  mv_ 5 25,
  mv_ 7 26] [0, 2, 4, 5, 6, 7])
 Pm
def PL : Af := .seq (.ops [mv_ 19 0,
  po_ 20 (.b2s (.t 19)),
  mv_ 5 20] [0, 2, 4, 5])
 O9
def Qm : Af := .seq (.ops [so_ 4 (.alloc (.agg [.arr 20 1 [.val (.int .u8 ((0 : Nat) : Int)), .val (.int .u8 ((0 : Nat) : Int)), .val (.int .u8 ((0 : Nat) : Int)), .val (.int .u8 ((0 : Nat) : Int)), .val (.int .u8 ((0 : Nat) : Int)), .val (.int .u8 ((0 : Nat) : Int)), .val (.int .u8 ((0 : Nat) : Int)), .val (.int .u8 ((0 : Nat) : Int)), .val (.int .u8 ((0 : Nat) : Int)), .val (.int .u8 ((0 : Nat) : Int)), .val (.int .u8 ((0 : Nat) : Int)), .val (.int .u8 ((0 : Nat) : Int)), .val (.int .u8 ((0 : Nat) : Int)), .val (.int .u8 ((0 : Nat) : Int)), .val (.int .u8 ((0 : Nat) : Int)), .val (.int .u8 ((0 : Nat) : Int)), .val (.int .u8 ((0 : Nat) : Int)), .val (.int .u8 ((0 : Nat) : Int)), .val (.int .u8 ((0 : Nat) : Int)), .val (.int .u8 ((0 : Nat) : Int))], .val (.slice none 0 0), .agg [.val (.string (str [])), .val (.string (str [])), .val (.int .i64 ((0 : Nat) : Int)), .val (.int .i64 ((0 : Nat) : Int))], .agg [.val (.string (str [])), .val (.string (str [])), .val (.int .i64 ((0 : Nat) : Int)), .val (.int .i64 ((0 : Nat) : Int))], .val (.string (str []))]))] [0, 2, 4])
 PL
def XA : Af := .seq (.ops [so_ 2 (.alloc (.agg [.arr 20 1 [.val (.int .u8 ((0 : Nat) : Int)), .val (.int .u8 ((0 : Nat) : Int)), .val (.int .u8 ((0 : Nat) : Int)), .val (.int .u8 ((0 : Nat) : Int)), .val (.int .u8 ((0 : Nat) : Int)), .val (.int .u8 ((0 : Nat) : Int)), .val (.int .u8 ((0 : Nat) : Int)), .val (.int .u8 ((0 : Nat) : Int)), .val (.int .u8 ((0 : Nat) : Int)), .val (.int .u8 ((0 : Nat) : Int)), .val (.int .u8 ((0 : Nat) : Int)), .val (.int .u8 ((0 : Nat) : Int)), .val (.int .u8 ((0 : Nat) : Int)), .val (.int .u8 ((0 : Nat) : Int)), .val (.int .u8 ((0 : Nat) : Int)), .val (.int .u8 ((0 : Nat) : Int)), .val (.int .u8 ((0 : Nat) : Int)), .val (.int .u8 ((0 : Nat) : Int)), .val (.int .u8 ((0 : Nat) : Int)), .val (.int .u8 ((0 : Nat) : Int))], .val (.slice none 0 0), .agg [.val (.string (str [])), .val (.string (str [])), .val (.int .i64 ((0 : Nat) : Int)), .val (.int .i64 ((0 : Nat) : Int))], .agg [.val (.string (str [])), .val (.string (str [])), .val (.int .i64 ((0 : Nat) : Int)), .val (.int .i64 ((0 : Nat) : Int))], .val (.string (str []))])),
  po_ 3 (.mov (.c (.bool false)))] [0, 2])
 Qm
def Vl : List VR := [.cell 2 true 30, .tmp 3]
theorem Afj : Tryz.f44.body.bind (trC Tryz.prog Tryz.f44.ntmps) = some (er XA) := by kernel_rfl
theorem AfV : trR Tryz.prog Tryz.f44.results.toList = some Vl := by kernel_rfl
def ZH := Aa Q8.eq_1
def ZM := Aa QN.eq_1
def NY := Aa Rq.eq_1
def ZN := Aa Ro.eq_1
def Eo := Aa QM.eq_1
def ZV := Aa QX.eq_1
def ZR := Aa Rn.eq_1
def ZF := Aa QU.eq_1
def ZE := Aa Rt.eq_1
def DV := Aa Ph.eq_1
def YJ := Aa Qr.eq_1
def YO := Aa Pv.eq_1
def Ym := Aa PR.eq_1
def YW := Aa Pj.eq_1
def GL := Aa Qh.eq_1
def YA := Aa Pm.eq_1
def Yd := Aa O9.eq_1
def YD := Aa PL.eq_1
def XY := Aa Qm.eq_1
def AcJ := Aa XA.eq_1
theorem Bz {K : TV → Prop} {e : Env} {H : List Ob} : res Vl e H K = res [.cell 2 true 30, .tmp 3] e H K := Ac rfl
def Ae4 := DD 129 Tryz.func44 Afj AfV rfl

def Y1 : Af := .seq (.block 1 (.draw 2 [po_ 27 (.fieldA 1 20 (.t 5)),
  po_ 28 (.load false 1 (.t 27)),
  po_ 29 (.fieldA 1 20 (.t 1)),
  po_ 30 (.load false 1 (.t 29)),
  mv_ 31 6,
  po_ 32 (.idxA 20 (.t 30) (.t 31)),
  po_ 33 (.load true 20 (.t 32)),
  ⟨some 34, .s (.bslice 20 1 (.arr 20 1 [.val (.int .u8 ((0 : Nat) : Int)), .val (.int .u8 ((0 : Nat) : Int)), .val (.int .u8 ((0 : Nat) : Int)), .val (.int .u8 ((0 : Nat) : Int)), .val (.int .u8 ((0 : Nat) : Int)), .val (.int .u8 ((0 : Nat) : Int)), .val (.int .u8 ((0 : Nat) : Int)), .val (.int .u8 ((0 : Nat) : Int)), .val (.int .u8 ((0 : Nat) : Int)), .val (.int .u8 ((0 : Nat) : Int)), .val (.int .u8 ((0 : Nat) : Int)), .val (.int .u8 ((0 : Nat) : Int)), .val (.int .u8 ((0 : Nat) : Int)), .val (.int .u8 ((0 : Nat) : Int)), .val (.int .u8 ((0 : Nat) : Int)), .val (.int .u8 ((0 : Nat) : Int)), .val (.int .u8 ((0 : Nat) : Int)), .val (.int .u8 ((0 : Nat) : Int)), .val (.int .u8 ((0 : Nat) : Int)), .val (.int .u8 ((0 : Nat) : Int))]) [⟨0, .t 33⟩]), none⟩,
  so_ 35 (.app 20 20 22 (.t 28) (.t 34)),
  po_ 36 (.fieldA 1 20 (.t 5)),
  ⟨none, .s (.store 1 (.t 36) (.t 35)), none⟩] [1, 2, 5, 6]))
 (.ops [mv_ 25 6,
  po_ 26 (.bin 3 .add (.t 25) (ci_ 1)),
  mv_ 6 26] [1, 2, 5, 6])
def Zh : Af := .seq (.seq (.ops [mv_ 20 6,
  po_ 21 (.fieldA 1 20 (.t 1)),
  po_ 22 (.load false 1 (.t 21)),
  po_ 23 (.lenV (.t 22)),
  po_ 24 (.bin 3 .lss (.t 20) (.t 23))] [1, 2, 5, 6, 24])
 (.cond (.t 24)
 (.skip)
 (.exit 0)))
 Y1
def Zk : Af := .block 0 (.ownB 5 [(1, 20)] 20 (.loop [1, 2, 5, 6] Zh))
def Za : Af := .seq (.ops [po_ 37 (.load true 30 (.t 5)),
  ⟨none, .s (.store 30 (.t 2) (.t 37)), none⟩] [2])
 (.ret)
def Zv : Af := .seq (.seq (.ops [po_ 6 (.mov (ci_ 0))] [1, 2, 5, 6])
 Zk)
 Za
def Zx : Af := .seq (.ops [po_ 13 (.fieldA 0 0 (.t 1)),
  po_ 14 (.load true 20 (.t 13)),
  po_ 15 (.load true 4 (.t 3)),
  po_ 16 (.load true 4 (.t 4)),
  po_ 17 (.fieldA 4 29 (.t 1)),
  po_ 18 (.load false 1 (.t 17)),
  ⟨some 19, .p (.build [.arr 20 1 [.val (.int .u8 ((0 : Nat) : Int)), .val (.int .u8 ((0 : Nat) : Int)), .val (.int .u8 ((0 : Nat) : Int)), .val (.int .u8 ((0 : Nat) : Int)), .val (.int .u8 ((0 : Nat) : Int)), .val (.int .u8 ((0 : Nat) : Int)), .val (.int .u8 ((0 : Nat) : Int)), .val (.int .u8 ((0 : Nat) : Int)), .val (.int .u8 ((0 : Nat) : Int)), .val (.int .u8 ((0 : Nat) : Int)), .val (.int .u8 ((0 : Nat) : Int)), .val (.int .u8 ((0 : Nat) : Int)), .val (.int .u8 ((0 : Nat) : Int)), .val (.int .u8 ((0 : Nat) : Int)), .val (.int .u8 ((0 : Nat) : Int)), .val (.int .u8 ((0 : Nat) : Int)), .val (.int .u8 ((0 : Nat) : Int)), .val (.int .u8 ((0 : Nat) : Int)), .val (.int .u8 ((0 : Nat) : Int)), .val (.int .u8 ((0 : Nat) : Int))], .val (.slice none 0 0), .agg [.val (.string (str [])), .val (.string (str [])), .val (.int .i64 ((0 : Nat) : Int)), .val (.int .i64 ((0 : Nat) : Int))], .agg [.val (.string (str [])), .val (.string (str [])), .val (.int .i64 ((0 : Nat) : Int)), .val (.int .i64 ((0 : Nat) : Int))], .val (.string (str []))] [20, 1, 4, 4, 1] [⟨0, .t 14⟩, ⟨2, .t 15⟩, ⟨3, .t 16⟩, ⟨4, .t 18⟩]), none⟩,
  so_ 5 (.alloc (.agg [.arr 20 1 [.val (.int .u8 ((0 : Nat) : Int)), .val (.int .u8 ((0 : Nat) : Int)), .val (.int .u8 ((0 : Nat) : Int)), .val (.int .u8 ((0 : Nat) : Int)), .val (.int .u8 ((0 : Nat) : Int)), .val (.int .u8 ((0 : Nat) : Int)), .val (.int .u8 ((0 : Nat) : Int)), .val (.int .u8 ((0 : Nat) : Int)), .val (.int .u8 ((0 : Nat) : Int)), .val (.int .u8 ((0 : Nat) : Int)), .val (.int .u8 ((0 : Nat) : Int)), .val (.int .u8 ((0 : Nat) : Int)), .val (.int .u8 ((0 : Nat) : Int)), .val (.int .u8 ((0 : Nat) : Int)), .val (.int .u8 ((0 : Nat) : Int)), .val (.int .u8 ((0 : Nat) : Int)), .val (.int .u8 ((0 : Nat) : Int)), .val (.int .u8 ((0 : Nat) : Int)), .val (.int .u8 ((0 : Nat) : Int)), .val (.int .u8 ((0 : Nat) : Int))], .val (.slice none 0 0), .agg [.val (.string (str [])), .val (.string (str [])), .val (.int .i64 ((0 : Nat) : Int)), .val (.int .i64 ((0 : Nat) : Int))], .agg [.val (.string (str [])), .val (.string (str [])), .val (.int .i64 ((0 : Nat) : Int)), .val (.int .i64 ((0 : Nat) : Int))], .val (.string (str []))])),
  ⟨none, .s (.store 30 (.t 5) (.t 19)), none⟩] [1, 2, 5])
 Zv
def Zf : Af := .seq (.ops [po_ 10 (.fieldA 3 25 (.t 1)),
  po_ 11 (.load true 4 (.t 10)),
  so_ 12 (.call 9 [.t 11]),
  so_ 4 (.alloc (.agg [.val (.string (str [])), .val (.string (str [])), .val (.int .i64 ((0 : Nat) : Int)), .val (.int .i64 ((0 : Nat) : Int))])),
  ⟨none, .s (.store 4 (.t 4) (.t 12)), none⟩] [1, 2, 3, 4])
 Zx
def Zc : Af := .seq (.ops [po_ 7 (.fieldA 2 21 (.t 1)),
  po_ 8 (.load true 4 (.t 7)),
  so_ 9 (.call 9 [.t 8]),
  so_ 3 (.alloc (.agg [.val (.string (str [])), .val (.string (str [])), .val (.int .i64 ((0 : Nat) : Int)), .val (.int .i64 ((0 : Nat) : Int))])),
  ⟨none, .s (.store 4 (.t 3) (.t 9)), none⟩] [1, 2, 3])
 Zf
def Aeq : Af := .seq (.ops [so_ 1 (.box (.t 0)),
  so_ 2 (.alloc (.agg [.arr 20 1 [.val (.int .u8 ((0 : Nat) : Int)), .val (.int .u8 ((0 : Nat) : Int)), .val (.int .u8 ((0 : Nat) : Int)), .val (.int .u8 ((0 : Nat) : Int)), .val (.int .u8 ((0 : Nat) : Int)), .val (.int .u8 ((0 : Nat) : Int)), .val (.int .u8 ((0 : Nat) : Int)), .val (.int .u8 ((0 : Nat) : Int)), .val (.int .u8 ((0 : Nat) : Int)), .val (.int .u8 ((0 : Nat) : Int)), .val (.int .u8 ((0 : Nat) : Int)), .val (.int .u8 ((0 : Nat) : Int)), .val (.int .u8 ((0 : Nat) : Int)), .val (.int .u8 ((0 : Nat) : Int)), .val (.int .u8 ((0 : Nat) : Int)), .val (.int .u8 ((0 : Nat) : Int)), .val (.int .u8 ((0 : Nat) : Int)), .val (.int .u8 ((0 : Nat) : Int)), .val (.int .u8 ((0 : Nat) : Int)), .val (.int .u8 ((0 : Nat) : Int))], .val (.slice none 0 0), .agg [.val (.string (str [])), .val (.string (str [])), .val (.int .i64 ((0 : Nat) : Int)), .val (.int .i64 ((0 : Nat) : Int))], .agg [.val (.string (str [])), .val (.string (str [])), .val (.int .i64 ((0 : Nat) : Int)), .val (.int .i64 ((0 : Nat) : Int))], .val (.string (str []))]))] [1, 2])
 Zc
def AeO : List VR := [.cell 2 true 30]
theorem Ajp : Tryz.f14.body.bind (trC Tryz.prog Tryz.f14.ntmps) = some (er Aeq) := by kernel_rfl
theorem AjB : trR Tryz.prog Tryz.f14.results.toList = some AeO := by kernel_rfl
def Aek := Aa Y1.eq_1
def TG := Aa Zh.eq_1
def Ael := Aa Zk.eq_1
def Ae5 := Aa Za.eq_1
def Aec := Aa Zv.eq_1
def AeU := Aa Zx.eq_1
def Aex := Aa Zf.eq_1
def Aeg := Aa Zc.eq_1
def AhD := Aa Aeq.eq_1
theorem AhN {K : TV → Prop} {e : Env} {H : List Ob} : res AeO e H K = res [.cell 2 true 30] e H K := Ac rfl
def Aiu := DD 38 Tryz.func14 Ajp AjB rfl

def KE : Af := .seq (.ops [mv_ 65 12,
  mv_ 66 65,
  ⟨some 67, .p (.mov (.t 5)), some ⟨66, true⟩⟩,
  ⟨some 68, .p (.lenV (.t 67)), some ⟨66, true⟩⟩,
  ⟨some 69, .p (.bin 3 .eql (.t 68) (ci_ 0)), some ⟨66, true⟩⟩,
  po_ 70 (.pick (.t 66) (.t 69) (.c (.bool false))),
  mv_ 4 70] [4])
 (.ret)
def Lh : Af := .seq (.seq (.ops [mv_ 63 10,
  po_ 64 (.bin 3 .neq (.t 63) (ci_ 0))] [5, 12, 64])
 (.cond (.t 64)
 KE
 (.skip)))
 (.seq (.ops [mv_ 71 5,
  so_ 72 (.call 16 [.t 71]),
  mv_ 13 72] [12, 13])
 (.seq (.ops [mv_ 73 12,
  mv_ 74 73,
  ⟨some 75, .p (.mov (.t 13)), some ⟨74, true⟩⟩,
  po_ 76 (.pick (.t 74) (.t 75) (.c (.bool false))),
  mv_ 4 76] [4])
 (.ret)))
def LM : Af := .seq (.ops [mv_ 61 1,
  so_ 62 (.call 16 [.t 61]),
  mv_ 12 62] [5, 10, 12])
 Lh
def LY : Af := .seq (.seq (.ops [mv_ 54 11,
  po_ 55 (.un .not (.t 54)),
  mv_ 56 55,
  ⟨some 57, .p (.mov (.t 7)), some ⟨56, false⟩⟩,
  ⟨some 58, .p (.mov (.t 10)), some ⟨56, false⟩⟩,
  ⟨some 59, .p (.bin 3 .neq (.t 57) (.t 58)), some ⟨56, false⟩⟩,
  po_ 60 (.pick (.t 56) (.c (.bool true)) (.t 59))] [1, 5, 10, 60])
 (.cond (.t 60)
 (.seq (.ops [po_ 4 (.mov (.c (.bool false)))] [4])
  (.ret))
 (.skip)))
 LM
def JV : Af := .seq (.ops [mv_ 51 5,
  mv_ 52 9,
  so_ 53 (.call 11 [.t 51, .t 52]),
  mv_ 11 53] [1, 5, 7, 10, 11])
 LY
def KG : Af := .seq (.ops [po_ 47 (.load true 30 (.t 8)),
  so_ 48 (.call 15 [.t 47]),
  mv_ 46 48,
  po_ 49 (.ext 0 (.t 46)),
  po_ 50 (.ext 1 (.t 46)),
  mv_ 9 49,
  mv_ 10 50] [1, 5, 7, 9, 10])
 JV
def JR : Af := .seq (.ops [po_ 44 (.load true 30 (.t 2)),
  so_ 45 (.call 14 [.t 44]),
  so_ 8 (.alloc (.agg [.arr 20 1 [.val (.int .u8 ((0 : Nat) : Int)), .val (.int .u8 ((0 : Nat) : Int)), .val (.int .u8 ((0 : Nat) : Int)), .val (.int .u8 ((0 : Nat) : Int)), .val (.int .u8 ((0 : Nat) : Int)), .val (.int .u8 ((0 : Nat) : Int)), .val (.int .u8 ((0 : Nat) : Int)), .val (.int .u8 ((0 : Nat) : Int)), .val (.int .u8 ((0 : Nat) : Int)), .val (.int .u8 ((0 : Nat) : Int)), .val (.int .u8 ((0 : Nat) : Int)), .val (.int .u8 ((0 : Nat) : Int)), .val (.int .u8 ((0 : Nat) : Int)), .val (.int .u8 ((0 : Nat) : Int)), .val (.int .u8 ((0 : Nat) : Int)), .val (.int .u8 ((0 : Nat) : Int)), .val (.int .u8 ((0 : Nat) : Int)), .val (.int .u8 ((0 : Nat) : Int)), .val (.int .u8 ((0 : Nat) : Int)), .val (.int .u8 ((0 : Nat) : Int))], .val (.slice none 0 0), .agg [.val (.string (str [])), .val (.string (str [])), .val (.int .i64 ((0 : Nat) : Int)), .val (.int .i64 ((0 : Nat) : Int))], .agg [.val (.string (str [])), .val (.string (str [])), .val (.int .i64 ((0 : Nat) : Int)), .val (.int .i64 ((0 : Nat) : Int))], .val (.string (str []))])),
  ⟨none, .s (.store 30 (.t 8) (.t 45)), none⟩] [1, 5, 7, 8])
 KG
def J7 : Af := .seq (.ops [mv_ 42 6,
  so_ 43 (.call 8 [.t 42]),
  mv_ 7 43] [1, 2, 5, 7])
 JR
def LW : Af := .seq (.ops [po_ 38 (.load true 30 (.t 2)),
  so_ 39 (.call 13 [.t 38]),
  mv_ 37 39,
  po_ 40 (.ext 0 (.t 37)),
  po_ 41 (.ext 1 (.t 37)),
  mv_ 5 40,
  mv_ 6 41] [1, 2, 5, 6])
 J7
def Jo : Af := .seq (.seq (.ops [po_ 14 (.fieldA 4 29 (.t 2)),
  po_ 15 (.load false 1 (.t 14)),
  po_ 16 (.lenS (.t 15)),
  mv_ 17 1,
  po_ 18 (.lenV (.t 17)),
  po_ 19 (.bin 3 .add (.t 16) (.t 18)),
  po_ 20 (.fieldA 2 21 (.t 2)),
  po_ 21 (.fieldA 0 0 (.t 20)),
  po_ 22 (.load false 1 (.t 21)),
  po_ 23 (.lenS (.t 22)),
  po_ 24 (.bin 3 .add (.t 19) (.t 23)),
  po_ 25 (.fieldA 3 25 (.t 2)),
  po_ 26 (.fieldA 0 0 (.t 25)),
  po_ 27 (.load false 1 (.t 26)),
  po_ 28 (.lenS (.t 27)),
  po_ 29 (.bin 3 .add (.t 24) (.t 28)),
  po_ 30 (.bin 3 .gtr (.t 29) (ci_ 20000)),
  mv_ 31 30,
  ⟨some 32, .p (.fieldA 1 20 (.t 2)), some ⟨31, false⟩⟩,
  ⟨some 33, .p (.load false 1 (.t 32)), some ⟨31, false⟩⟩,
  ⟨some 34, .p (.lenV (.t 33)), some ⟨31, false⟩⟩,
  ⟨some 35, .p (.bin 3 .gtr (.t 34) (ci_ 100)), some ⟨31, false⟩⟩,
  po_ 36 (.pick (.t 31) (.c (.bool true)) (.t 35))] [1, 2, 36])
 (.cond (.t 36)
 (.seq (.ops [po_ 4 (.mov (.c (.bool true)))] [4])
  (.ret))
 (.skip)))
 LW
def QO : Af := .seq (.ops [so_ 2 (.box (.t 0)),
  po_ 4 (.mov (.c (.bool false)))] [1, 2])
 Jo
def Q3 : List VR := [.tmp 4]
theorem AbB : Tryz.f4.body.bind (trC Tryz.prog Tryz.f4.ntmps) = some (er QO) := by kernel_rfl
theorem Abr : trR Tryz.prog Tryz.f4.results.toList = some Q3 := by kernel_rfl
def Uw := Aa KE.eq_1
def IJ := Aa Lh.eq_1
def I7 := Aa LM.eq_1
def I4 := Aa LY.eq_1
def Jb := Aa JV.eq_1
def II := Aa KG.eq_1
def IU := Aa JR.eq_1
def IC := Aa J7.eq_1
def UI := Aa LW.eq_1
def Tn := Aa Jo.eq_1
def ZG := Aa QO.eq_1
theorem Em {K : TV → Prop} {e : Env} {H : List Ob} : res Q3 e H K = res [.tmp 4] e H K := Ac rfl
def Aav := DD 77 Tryz.func4 AbB Abr rfl

def Pq : Af := .seq (.ops [mv_ 32 7,
  mv_ 33 32,
  ⟨some 34, .p (.mov (.t 6)), some ⟨33, true⟩⟩,
  ⟨some 35, .p (.bin 34 .eql (.t 34) (ci_ 22)), some ⟨33, true⟩⟩,
  po_ 36 (.pick (.t 33) (.t 35) (.c (.bool false))),
  mv_ 37 36,
  ⟨some 38, .p (.fieldA 1 20 (.t 4)), some ⟨37, true⟩⟩,
  ⟨some 39, .p (.load false 1 (.t 38)), some ⟨37, true⟩⟩,
  ⟨some 40, .p (.lenV (.t 39)), some ⟨37, true⟩⟩,
  ⟨some 41, .p (.bin 3 .eql (.t 40) (ci_ 0)), some ⟨37, true⟩⟩,
  po_ 42 (.pick (.t 37) (.t 41) (.c (.bool false))),
  mv_ 43 42,
  ⟨some 44, .p (.fieldA 4 29 (.t 4)), some ⟨43, true⟩⟩,
  ⟨some 45, .p (.load false 1 (.t 44)), some ⟨43, true⟩⟩,
  ⟨some 46, .p (.bin 9 .eql (.t 45) (.c (.string (str [])))), some ⟨43, true⟩⟩,
  po_ 47 (.pick (.t 43) (.t 46) (.c (.bool false))),
  mv_ 48 47,
  ⟨some 49, .p (.fieldA 0 0 (.t 4)), some ⟨48, true⟩⟩,
  ⟨some 50, .p (.load true 20 (.t 49)), some ⟨48, true⟩⟩,
  ⟨some 51, .p (.buildA 20 1 [.val (.int .u8 ((0 : Nat) : Int)), .val (.int .u8 ((0 : Nat) : Int)), .val (.int .u8 ((0 : Nat) : Int)), .val (.int .u8 ((0 : Nat) : Int)), .val (.int .u8 ((0 : Nat) : Int)), .val (.int .u8 ((0 : Nat) : Int)), .val (.int .u8 ((0 : Nat) : Int)), .val (.int .u8 ((0 : Nat) : Int)), .val (.int .u8 ((0 : Nat) : Int)), .val (.int .u8 ((0 : Nat) : Int)), .val (.int .u8 ((0 : Nat) : Int)), .val (.int .u8 ((0 : Nat) : Int)), .val (.int .u8 ((0 : Nat) : Int)), .val (.int .u8 ((0 : Nat) : Int)), .val (.int .u8 ((0 : Nat) : Int)), .val (.int .u8 ((0 : Nat) : Int)), .val (.int .u8 ((0 : Nat) : Int)), .val (.int .u8 ((0 : Nat) : Int)), .val (.int .u8 ((0 : Nat) : Int)), .val (.int .u8 ((0 : Nat) : Int))] []), some ⟨48, true⟩⟩,
  ⟨some 52, .p (.gen (.eqA 20 false) [.t 50, .t 51]), some ⟨48, true⟩⟩,
  po_ 53 (.pick (.t 48) (.t 52) (.c (.bool false))),
  mv_ 2 53] [2])
 (.ret)
def PX : Af := .cond (.t 31)
 Pq
 (.skip)
def Py : Af := .seq (.block 1 (.seq (.draw 5 [po_ 108 (.fieldA 1 20 (.t 4)),
  po_ 109 (.load false 1 (.t 108)),
  mv_ 110 12,
  po_ 111 (.idxA 20 (.t 109) (.t 110)),
  po_ 112 (.load true 20 (.t 111)),
  po_ 113 (.fieldA 1 20 (.t 8)),
  po_ 114 (.load false 1 (.t 113)),
  mv_ 115 12,
  po_ 116 (.idxA 20 (.t 114) (.t 115)),
  po_ 117 (.load true 20 (.t 116)),
  po_ 118 (.gen (.eqA 20 true) [.t 112, .t 117])] [4, 8, 12, 118])
 (.cond (.t 118)
 (.seq (.ops [po_ 2 (.mov (.c (.bool false)))] [2])
  (.ret))
 (.skip))))
 (.ops [mv_ 106 12,
  po_ 107 (.bin 3 .add (.t 106) (ci_ 1)),
  mv_ 12 107] [4, 8, 12])
def PH : Af := .seq (.seq (.ops [mv_ 101 12,
  po_ 102 (.fieldA 1 20 (.t 4)),
  po_ 103 (.load false 1 (.t 102)),
  po_ 104 (.lenV (.t 103)),
  po_ 105 (.bin 3 .lss (.t 101) (.t 104))] [4, 8, 12, 105])
 (.cond (.t 105)
 (.skip)
 (.exit 0)))
 Py
def Qi : Af := .block 0 (.loop [4, 8, 12] PH)
def PM : Af := .seq (.ops [po_ 2 (.mov (.c (.bool true)))] [2])
 (.ret)
def Qv : Af := .seq (.seq (.ops [po_ 12 (.mov (ci_ 0))] [4, 8, 12])
 Qi)
 PM
def Qj : Af := .seq (.seq (.ops [mv_ 64 7,
  po_ 65 (.un .not (.t 64)),
  mv_ 66 65,
  ⟨some 67, .p (.mov (.t 6)), some ⟨66, false⟩⟩,
  ⟨some 68, .p (.bin 34 .neq (.t 67) (ci_ 0)), some ⟨66, false⟩⟩,
  po_ 69 (.pick (.t 66) (.c (.bool true)) (.t 68)),
  mv_ 70 69,
  ⟨some 71, .p (.mov (.t 10)), some ⟨70, false⟩⟩,
  ⟨some 72, .p (.un .not (.t 71)), some ⟨70, false⟩⟩,
  po_ 73 (.pick (.t 70) (.c (.bool true)) (.t 72)),
  mv_ 74 73,
  ⟨some 75, .p (.mov (.t 11)), some ⟨74, false⟩⟩,
  ⟨some 76, .p (.un .not (.t 75)), some ⟨74, false⟩⟩,
  po_ 77 (.pick (.t 74) (.c (.bool true)) (.t 76)),
  mv_ 78 77,
  ⟨some 79, .p (.fieldA 0 0 (.t 4)), some ⟨78, false⟩⟩,
  ⟨some 80, .p (.load true 20 (.t 79)), some ⟨78, false⟩⟩,
  ⟨some 81, .p (.fieldA 0 0 (.t 8)), some ⟨78, false⟩⟩,
  ⟨some 82, .p (.load true 20 (.t 81)), some ⟨78, false⟩⟩,
  ⟨some 83, .p (.gen (.eqA 20 true) [.t 80, .t 82]), some ⟨78, false⟩⟩,
  po_ 84 (.pick (.t 78) (.c (.bool true)) (.t 83)),
  mv_ 85 84,
  ⟨some 86, .p (.fieldA 4 29 (.t 4)), some ⟨85, false⟩⟩,
  ⟨some 87, .p (.load false 1 (.t 86)), some ⟨85, false⟩⟩,
  ⟨some 88, .p (.fieldA 4 29 (.t 8)), some ⟨85, false⟩⟩,
  ⟨some 89, .p (.load false 1 (.t 88)), some ⟨85, false⟩⟩,
  ⟨some 90, .p (.bin 9 .neq (.t 87) (.t 89)), some ⟨85, false⟩⟩,
  po_ 91 (.pick (.t 85) (.c (.bool true)) (.t 90)),
  mv_ 92 91,
  ⟨some 93, .p (.fieldA 1 20 (.t 4)), some ⟨92, false⟩⟩,
  ⟨some 94, .p (.load false 1 (.t 93)), some ⟨92, false⟩⟩,
  ⟨some 95, .p (.lenV (.t 94)), some ⟨92, false⟩⟩,
  ⟨some 96, .p (.fieldA 1 20 (.t 8)), some ⟨92, false⟩⟩,
  ⟨some 97, .p (.load false 1 (.t 96)), some ⟨92, false⟩⟩,
  ⟨some 98, .p (.lenV (.t 97)), some ⟨92, false⟩⟩,
  ⟨some 99, .p (.bin 3 .neq (.t 95) (.t 98)), some ⟨92, false⟩⟩,
  po_ 100 (.pick (.t 92) (.c (.bool true)) (.t 99))] [4, 8, 100])
 (.cond (.t 100)
 (.seq (.ops [po_ 2 (.mov (.c (.bool false)))] [2])
  (.ret))
 (.skip)))
 Qv
def Qn : Af := .seq (.ops [po_ 59 (.fieldA 3 25 (.t 4)),
  po_ 60 (.load true 4 (.t 59)),
  po_ 61 (.fieldA 3 25 (.t 8)),
  po_ 62 (.load true 4 (.t 61)),
  so_ 63 (.call 41 [.t 60, .t 62]),
  mv_ 11 63] [4, 6, 7, 8, 10, 11])
 Qj
def MO : Af := .seq (.ops [po_ 54 (.fieldA 2 21 (.t 4)),
  po_ 55 (.load true 4 (.t 54)),
  po_ 56 (.fieldA 2 21 (.t 8)),
  po_ 57 (.load true 4 (.t 56)),
  so_ 58 (.call 41 [.t 55, .t 57]),
  mv_ 10 58] [4, 6, 7, 8, 10])
 Qn
def NE : Af := .seq (.seq (.ops [mv_ 30 9,
  po_ 31 (.un .not (.t 30))] [4, 6, 7, 8, 31])
 PX)
 MO
def MW : Af := .seq (.ops [mv_ 26 0,
  so_ 27 (.call 44 [.t 26]),
  mv_ 25 27,
  po_ 28 (.ext 0 (.t 25)),
  po_ 29 (.ext 1 (.t 25)),
  so_ 8 (.alloc (.agg [.arr 20 1 [.val (.int .u8 ((0 : Nat) : Int)), .val (.int .u8 ((0 : Nat) : Int)), .val (.int .u8 ((0 : Nat) : Int)), .val (.int .u8 ((0 : Nat) : Int)), .val (.int .u8 ((0 : Nat) : Int)), .val (.int .u8 ((0 : Nat) : Int)), .val (.int .u8 ((0 : Nat) : Int)), .val (.int .u8 ((0 : Nat) : Int)), .val (.int .u8 ((0 : Nat) : Int)), .val (.int .u8 ((0 : Nat) : Int)), .val (.int .u8 ((0 : Nat) : Int)), .val (.int .u8 ((0 : Nat) : Int)), .val (.int .u8 ((0 : Nat) : Int)), .val (.int .u8 ((0 : Nat) : Int)), .val (.int .u8 ((0 : Nat) : Int)), .val (.int .u8 ((0 : Nat) : Int)), .val (.int .u8 ((0 : Nat) : Int)), .val (.int .u8 ((0 : Nat) : Int)), .val (.int .u8 ((0 : Nat) : Int)), .val (.int .u8 ((0 : Nat) : Int))], .val (.slice none 0 0), .agg [.val (.string (str [])), .val (.string (str [])), .val (.int .i64 ((0 : Nat) : Int)), .val (.int .i64 ((0 : Nat) : Int))], .agg [.val (.string (str [])), .val (.string (str [])), .val (.int .i64 ((0 : Nat) : Int)), .val (.int .i64 ((0 : Nat) : Int))], .val (.string (str []))])),
  ⟨none, .s (.store 30 (.t 8) (.t 28)), none⟩,
  mv_ 9 29] [4, 6, 7, 8, 9])
 NE
def Nk : Af := .seq (.ops [mv_ 22 3,
  mv_ 23 0,
  so_ 24 (.call 39 [.t 22, .t 23]),
  mv_ 7 24] [0, 4, 6, 7])
 MW
def Nw : Af := .seq (.ops [mv_ 20 5,
  so_ 21 (.call 8 [.t 20]),
  mv_ 6 21] [0, 3, 4, 6])
 Nk
def MI : Af := .seq (.ops [mv_ 16 3,
  so_ 17 (.call 43 [.t 16]),
  mv_ 15 17,
  po_ 18 (.ext 0 (.t 15)),
  po_ 19 (.ext 1 (.t 15)),
  so_ 4 (.alloc (.agg [.arr 20 1 [.val (.int .u8 ((0 : Nat) : Int)), .val (.int .u8 ((0 : Nat) : Int)), .val (.int .u8 ((0 : Nat) : Int)), .val (.int .u8 ((0 : Nat) : Int)), .val (.int .u8 ((0 : Nat) : Int)), .val (.int .u8 ((0 : Nat) : Int)), .val (.int .u8 ((0 : Nat) : Int)), .val (.int .u8 ((0 : Nat) : Int)), .val (.int .u8 ((0 : Nat) : Int)), .val (.int .u8 ((0 : Nat) : Int)), .val (.int .u8 ((0 : Nat) : Int)), .val (.int .u8 ((0 : Nat) : Int)), .val (.int .u8 ((0 : Nat) : Int)), .val (.int .u8 ((0 : Nat) : Int)), .val (.int .u8 ((0 : Nat) : Int)), .val (.int .u8 ((0 : Nat) : Int)), .val (.int .u8 ((0 : Nat) : Int)), .val (.int .u8 ((0 : Nat) : Int)), .val (.int .u8 ((0 : Nat) : Int)), .val (.int .u8 ((0 : Nat) : Int))], .val (.slice none 0 0), .agg [.val (.string (str [])), .val (.string (str [])), .val (.int .i64 ((0 : Nat) : Int)), .val (.int .i64 ((0 : Nat) : Int))], .agg [.val (.string (str [])), .val (.string (str [])), .val (.int .i64 ((0 : Nat) : Int)), .val (.int .i64 ((0 : Nat) : Int))], .val (.string (str []))])),
  ⟨none, .s (.store 30 (.t 4) (.t 18)), none⟩,
  mv_ 5 19] [0, 3, 4, 5])
 Nw
def NH : Af := .seq (.ops [mv_ 13 0,
  so_ 14 (.call 37 [.t 13]),
  mv_ 3 14] [0, 3])
 MI
def TU : Af := .seq (.ops [po_ 2 (.mov (.c (.bool false)))] [0])
 NH
def TW : List VR := [.tmp 2]
theorem Ae0 : Tryz.f16.body.bind (trC Tryz.prog Tryz.f16.ntmps) = some (er TU) := by kernel_rfl
theorem AeR : trR Tryz.prog Tryz.f16.results.toList = some TW := by kernel_rfl
def YN := Aa Pq.eq_1
def JZ := Aa PX.eq_1
def X6 := Aa Py.eq_1
def Kv := Aa PH.eq_1
def Yy := Aa Qi.eq_1
def XZ := Aa PM.eq_1
def XX := Aa Qv.eq_1
def Ye := Aa Qj.eq_1
def YC := Aa Qn.eq_1
def VW := Aa MO.eq_1
def Jj := Aa NE.eq_1
def Jt := Aa MW.eq_1
def Jn := Aa Nk.eq_1
def Jr := Aa Nw.eq_1
def Xb := Aa MI.eq_1
def Vs := Aa NH.eq_1
def AbI := Aa TU.eq_1
theorem Q5 {K : TV → Prop} {e : Env} {H : List Ob} : res TW e H K = res [.tmp 2] e H K := Ac rfl
def AdW := DD 119 Tryz.func16 Ae0 AeR rfl

end Go.Proofs.YtliaddbbmnfioaaGreatDoor


namespace Go.Proofs.YtliaddbbmnfioaaGreatDoor
open Go.RowKit
variable [Bf]
set_option linter.unusedSectionVars false
set_option linter.unusedVariables false
set_option linter.unusedSimpArgs false
set_option autoImplicit false
def dgs : Nat → Nat → List UInt8
 | 0, _ => []
 | k + 1, v => dgs k (v / 10) ++ [UInt8.ofNat (48 + v % 10)]
theorem Ama : ∀ (k v : Nat), (dgs k v).length = k
 | 0, _ => rfl
 | k + 1, v => by rw [dgs, List.length_append, Ama k]; rfl
theorem ZX : ∀ (k m v : Nat), dgs (m + k) v = dgs m (v / 10 ^ k) ++ dgs k v
 | 0, m, v => by simp [dgs]
 | k + 1, m, v => by rw [← Nat.add_assoc, dgs, dgs, ZX k m, Nat.div_div_eq_div_mul, Nat.pow_succ, Nat.mul_comm 10, List.append_assoc]
theorem Aaf (v : Nat) : dgs 2 v = [UInt8.ofNat (48 + v % 100 / 10), UInt8.ofNat (48 + v % 100 % 10)] := by
 simp only [dgs, List.nil_append, List.cons_append]
 rw [show v / 10 % 10 = v % 100 / 10 by omega, show v % 10 = v % 100 % 10 by omega]
theorem AmC (v : Nat) : dgs 1 v = [UInt8.ofNat (48 + v % 10)] := by simp [dgs]
theorem Aqx : ∀ (u : Nat), dgs (Lib.nDigits u) u = Lib.decDigits u := by
 intro u
 induction u using Nat.strongRecOn with
 | _ u ih =>
  by_cases h : u < 10
  ·rw [Lib.nDigits_small h, Lib.decDigits_one h, AmC, Nat.mod_eq_of_lt h]
  ·rw [Lib.nDigits_big h, dgs, ih (u / 10) (by omega), Lib.decDigits.eq_1 u, dif_neg h]
theorem AoL : ∀ (u : Nat), u < 10 ^ Lib.nDigits u := by
 intro u
 induction u using Nat.strongRecOn with
 | _ u ih =>
  by_cases h : u < 10
  ·rw [Lib.nDigits_small h]; omega
  ·have := ih (u / 10) (by omega)
   rw [Lib.nDigits_big h, Nat.pow_succ]; omega
end Go.Proofs.YtliaddbbmnfioaaGreatDoor


namespace Go.Proofs.YtliaddbbmnfioaaGreatDoor
open Go.RowKit
variable [Bf]
set_option linter.unusedSectionVars false
set_option linter.unusedVariables false
section
variable {t : TypeId} {a b : Nat} {k2 : IntKind}
theorem Ak5 {n : Nat} (h : n < 4294967296) : IntKind.u32.wrap (n : Int) = n := by rw [IntKind.wrap_u32']; omega
end
end Go.Proofs.YtliaddbbmnfioaaGreatDoor


namespace Go.Proofs.YtliaddbbmnfioaaGreatDoor
open Go.RowKit
variable [Bf]
set_option linter.unusedSectionVars false
set_option linter.unusedVariables false
section
variable {t : TypeId} {a b : Nat} {k2 : IntKind}
theorem YQ {n : Nat} (h : n < 18446744073709551616) : IntKind.u64.wrap (n : Int) = n := by rw [IntKind.wrap_u64]; omega
theorem AnK (h : b ≠ 0) (h1 : a < 18446744073709551616) : ET t .quo (.int .u64 (a : Int)) (.int .u64 (b : Int)) = some (.int .u64 ((a / b : Nat) : Int)) := by
 have e : binOp .quo t (.int .u64 (a : Int)) (.int .u64 (b : Int)) = pure (.int .u64 ((a / b : Nat) : Int)) := by
  unfold binOp
  simp only [ne_eq, not_true_eq_false, if_false, Op.intDiv, show ¬ (b : Int) = 0 from by omega, Int.tdiv_eq_ediv_of_nonneg (show (0 : Int) ≤ (a : Int) by omega)]
  rw [show (a : Int) / (b : Int) = ((a / b : Nat) : Int) from rfl, YQ (Nat.lt_of_le_of_lt (Nat.div_le_self _ _) h1)]
 unfold ET; rw [e]; rfl
theorem AjS (h : b ≠ 0) (h1 : a < 4294967296) : ET t .quo (.int .u32 (a : Int)) (.int .u32 (b : Int)) = some (.int .u32 ((a / b : Nat) : Int)) := by
 have e : binOp .quo t (.int .u32 (a : Int)) (.int .u32 (b : Int)) = pure (.int .u32 ((a / b : Nat) : Int)) := by
  unfold binOp
  simp only [ne_eq, not_true_eq_false, if_false, Op.intDiv, show ¬ (b : Int) = 0 from by omega, Int.tdiv_eq_ediv_of_nonneg (show (0 : Int) ≤ (a : Int) by omega)]
  rw [show (a : Int) / (b : Int) = ((a / b : Nat) : Int) from rfl, Ak5 (Nat.lt_of_le_of_lt (Nat.div_le_self _ _) h1)]
 unfold ET; rw [e]; rfl
theorem AjT (h1 : a * b < 4294967296) : ET t .mul (.int .u32 (a : Int)) (.int .u32 (b : Int)) = some (.int .u32 ((a * b : Nat) : Int)) := by
 rw [show ET t .mul (.int .u32 (a : Int)) (.int .u32 (b : Int)) = some (.int .u32 (IntKind.u32.wrap ((a : Int) * (b : Int)))) from rfl, show (a : Int) * (b : Int) = ((a * b : Nat) : Int) from rfl, Ak5 h1]
theorem YF (h1 : a + b < 4294967296) : ET t .add (.int .u32 (a : Int)) (.int .u32 (b : Int)) = some (.int .u32 ((a + b : Nat) : Int)) := by
 rw [show ET t .add (.int .u32 (a : Int)) (.int .u32 (b : Int)) = some (.int .u32 (IntKind.u32.wrap ((a : Int) + (b : Int)))) from rfl, show (a : Int) + (b : Int) = ((a + b : Nat) : Int) from by omega, Ak5 h1]
theorem Aj9 (h1 : a * b < 18446744073709551616) : ET t .mul (.int .u64 (a : Int)) (.int .u64 (b : Int)) = some (.int .u64 ((a * b : Nat) : Int)) := by
 rw [show ET t .mul (.int .u64 (a : Int)) (.int .u64 (b : Int)) = some (.int .u64 (IntKind.u64.wrap ((a : Int) * (b : Int)))) from rfl, show (a : Int) * (b : Int) = ((a * b : Nat) : Int) from rfl, YQ h1]
theorem Avq (h1 : a + b < 18446744073709551616) : ET t .add (.int .u64 (a : Int)) (.int .u64 (b : Int)) = some (.int .u64 ((a + b : Nat) : Int)) := by
 rw [show ET t .add (.int .u64 (a : Int)) (.int .u64 (b : Int)) = some (.int .u64 (IntKind.u64.wrap ((a : Int) + (b : Int)))) from rfl, show (a : Int) + (b : Int) = ((a + b : Nat) : Int) from by omega, YQ h1]
theorem AnN (h1 : b ≤ a) (h2 : a < 18446744073709551616) : ET t .sub (.int .u64 (a : Int)) (.int .u64 (b : Int)) = some (.int .u64 ((a - b : Nat) : Int)) := by
 rw [show ET t .sub (.int .u64 (a : Int)) (.int .u64 (b : Int)) = some (.int .u64 (IntKind.u64.wrap ((a : Int) - (b : Int)))) from rfl, show (a : Int) - (b : Int) = ((a - b : Nat) : Int) from by omega, YQ (by omega)]
theorem AnZ (h2 : b ≤ 63) (h4 : a * 2 ^ b < 18446744073709551616) : ET t .shl (.int .u64 (a : Int)) (.int k2 (b : Int)) = some (.int .u64 ((a * 2 ^ b : Nat) : Int)) := by
 have e : binOp .shl t (.int .u64 (a : Int)) (.int k2 (b : Int)) = pure (.int .u64 ((a * 2 ^ b : Nat) : Int)) := by
  show Op.shift .shl .u64 a k2 b = _
  unfold Op.shift
  rw [if_neg (by omega)]
  have hm : min ((b : Int)).toNat IntKind.u64.bits = b := by
   have : IntKind.u64.bits = 64 := rfl
   omega
  simp only [hm]
  have e2 : (a : Int) * 2 ^ b = ((a * 2 ^ b : Nat) : Int) := by rw [Int.natCast_mul, Int.natCast_pow]; rfl
  rw [e2, YQ h4]
 unfold ET; rw [e]; rfl
end
end Go.Proofs.YtliaddbbmnfioaaGreatDoor


namespace Go.Proofs.YtliaddbbmnfioaaGreatDoor
open Go.RowKit
variable [Bf]
set_option linter.unusedSectionVars false
set_option linter.unusedSimpArgs false
set_option linter.unusedVariables false
set_option autoImplicit false

section
variable {t : TypeId} {a b : Nat} {k2 : IntKind}
theorem Awq {n : Nat} (h : n < 256) : IntKind.u8.wrap (n : Int) = n := by rw [IntKind.wrap_u8]; omega
theorem bv8 {n : Nat} : (BitVec.ofInt 8 (n : Int)).toNat = n % 256 := by
 rw [BitVec.toNat_ofInt]; omega
theorem Af8 : ET t .add (.int .u8 (a : Int)) (.int .u8 (b : Int)) = some (.int .u8 (((a + b) % 256 : Nat) : Int)) := by
 rw [show ET t .add (.int .u8 (a : Int)) (.int .u8 (b : Int)) = some (.int .u8 (IntKind.u8.wrap ((a : Int) + b))) from rfl, IntKind.wrap_u8]
 congr 2
theorem AvV : ET t .mul (.int .u8 (a : Int)) (.int .u8 (b : Int)) = some (.int .u8 (((a * b) % 256 : Nat) : Int)) := by
 rw [show ET t .mul (.int .u8 (a : Int)) (.int .u8 (b : Int)) = some (.int .u8 (IntKind.u8.wrap ((a : Int) * b))) from rfl, IntKind.wrap_u8]
 congr 2
theorem Zd (h : b ≤ a) (h2 : a < 256) : ET t .sub (.int .u8 (a : Int)) (.int .u8 (b : Int)) = some (.int .u8 ((a - b : Nat) : Int)) := by
 rw [show ET t .sub (.int .u8 (a : Int)) (.int .u8 (b : Int)) = some (.int .u8 (IntKind.u8.wrap ((a : Int) - b))) from rfl, IntKind.wrap_u8]
 congr 2; omega
theorem ABD (h1 : a < 256) (h2 : b < 256) : ET t .and (.int .u8 (a : Int)) (.int .u8 (b : Int)) = some (.int .u8 ((a &&& b : Nat) : Int)) := by
 rw [show ET t .and (.int .u8 (a : Int)) (.int .u8 (b : Int)) = some (.int .u8 (IntKind.u8.wrap ((BitVec.ofInt 8 a &&& BitVec.ofInt 8 b).toNat : Int))) from rfl, BitVec.toNat_and, bv8, bv8, Nat.mod_eq_of_lt (by omega), Nat.mod_eq_of_lt (by omega)]
 have := Nat.and_le_left (n := a) (m := b)
 rw [Awq (by omega)]
theorem AD0 (h1 : a < 256) (h2 : b < 256) : ET t .or (.int .u8 (a : Int)) (.int .u8 (b : Int)) = some (.int .u8 ((a ||| b : Nat) : Int)) := by
 rw [show ET t .or (.int .u8 (a : Int)) (.int .u8 (b : Int)) = some (.int .u8 (IntKind.u8.wrap ((BitVec.ofInt 8 a ||| BitVec.ofInt 8 b).toNat : Int))) from rfl, BitVec.toNat_or, bv8, bv8, Nat.mod_eq_of_lt (by omega), Nat.mod_eq_of_lt (by omega)]
 have := Nat.or_lt_two_pow (n := 8) (x := a) (y := b) (by omega) (by omega)
 rw [Awq (by omega)]
theorem ABq (h1 : a < 256) (h2 : b ≤ 8) : ET t .shr (.int .u8 (a : Int)) (.int k2 (b : Int)) = some (.int .u8 ((a / 2 ^ b : Nat) : Int)) := by
 have e : binOp .shr t (.int .u8 (a : Int)) (.int k2 (b : Int)) = pure (.int .u8 ((a / 2 ^ b : Nat) : Int)) := by
  show Op.shift .shr .u8 a k2 b = _
  unfold Op.shift
  rw [if_neg (by omega)]
  have hm : min ((b : Int)).toNat IntKind.u8.bits = b := by
   have : IntKind.u8.bits = 8 := rfl
   omega
  simp only [hm]
  rw [Int.fdiv_eq_ediv_of_nonneg _ (by exact Int.le_of_lt (Int.pow_pos (by omega)))]
  have hle : a / 2 ^ b ≤ a := Nat.div_le_self _ _
  have e2 : (a : Int) / 2 ^ b = ((a / 2 ^ b : Nat) : Int) := by rw [Int.natCast_ediv, Int.natCast_pow]; rfl
  rw [e2]
 unfold ET; rw [e]; rfl
theorem Azz (h : b ≠ 0) (h1 : a < 256) : ET t .quo (.int .u8 (a : Int)) (.int .u8 (b : Int)) = some (.int .u8 ((a / b : Nat) : Int)) := by
 have hz : ¬ (b : Int) = 0 := by omega
 have hle : a / b ≤ a := Nat.div_le_self _ _
 have e2 : (a : Int).tdiv (b : Int) = ((a / b : Nat) : Int) := by rw [Int.tdiv_eq_ediv_of_nonneg (by omega)]; rfl
 have e : binOp .quo t (.int .u8 (a : Int)) (.int .u8 (b : Int)) = pure (.int .u8 ((a / b : Nat) : Int)) := by
  unfold binOp
  simp only [ne_eq, not_true_eq_false, if_false, Op.intDiv, hz, e2, Awq (show a / b < 256 by omega)]
 unfold ET; rw [e]; rfl
end
theorem Ano {n : Nat} (h : n < 256) : TV.val (.int .u8 (n : Int)) = by8 (UInt8.ofNat n) := by
 show TV.val (.int .u8 (n : Int)) = TV.val (.int .u8 ((UInt8.ofNat n).toNat : Int))
 rw [UInt8.toNat_ofNat', Nat.mod_eq_of_lt (by omega)]
theorem AL {l : List UInt8} : bl (str l) = l := by simp [bl, str]
theorem Axx {l m : List UInt8} : str l ++ str m = str (l ++ m) := by
 apply ByteArray.ext
 simp [str]
theorem Uk {t : TypeId} {l m : List UInt8} (h : l.length + m.length ≤ 9223372036854775807) : ET t .add (.string (str l)) (.string (str m)) = some (.string (str (l ++ m))) := by
 have e1 : (str l).size = l.length := by show l.toArray.size = _; simp
 have e2 : (str m).size = m.length := by show m.toArray.size = _; simp
 rw [← Axx, ET, binOp_string_add, Op.stringOp]
 simp only [e1, e2]
 rw [if_neg (by show ¬ ((l.length + m.length : Nat) : Int) > 9223372036854775807; omega)]
 rfl
end Go.Proofs.YtliaddbbmnfioaaGreatDoor


namespace Go.Proofs.YtliaddbbmnfioaaGreatDoor
variable [Bf]
set_option linter.unusedSectionVars false
set_option linter.unusedVariables false
set_option linter.defProp false
set_option maxRecDepth 100000

def BC : ByteArray := str [48, 48, 48, 49, 48, 50, 48, 51, 48, 52, 48, 53, 48, 54, 48, 55, 48, 56, 48, 57, 49, 48, 49, 49, 49, 50, 49, 51, 49, 52, 49, 53, 49, 54, 49, 55, 49, 56, 49, 57, 50, 48, 50, 49, 50, 50, 50, 51, 50, 52, 50, 53, 50, 54, 50, 55, 50, 56, 50, 57, 51, 48, 51, 49, 51, 50, 51, 51, 51, 52, 51, 53, 51, 54, 51, 55, 51, 56, 51, 57, 52, 48, 52, 49, 52, 50, 52, 51, 52, 52, 52, 53, 52, 54, 52, 55, 52, 56, 52, 57, 53, 48, 53, 49, 53, 50, 53, 51, 53, 52, 53, 53, 53, 54, 53, 55, 53, 56, 53, 57, 54, 48, 54, 49, 54, 50, 54, 51, 54, 52, 54, 53, 54, 54, 54, 55, 54, 56, 54, 57, 55, 48, 55, 49, 55, 50, 55, 51, 55, 52, 55, 53, 55, 54, 55, 55, 55, 56, 55, 57, 56, 48, 56, 49, 56, 50, 56, 51, 56, 52, 56, 53, 56, 54, 56, 55, 56, 56, 56, 57, 57, 48, 57, 49, 57, 50, 57, 51, 57, 52, 57, 53, 57, 54, 57, 55, 57, 56, 57, 57]




def F6 : Af := .seq (.seq (.ops [mv_ 11 0,
  po_ 12 (.bin 163 .lss (.t 11) (.c (.int .u64 ((100 : Nat) : Int))))] [0, 12])
 (.cond (.t 12)
 (.seq (.ops [mv_ 13 0,
   po_ 14 (.conv .i64 (.t 13)),
   so_ 15 (.call 126 [.t 14]),
   mv_ 4 15] [4])
  (.ret))
 (.skip)))
 (.seq (.ops [so_ 5 (.alloc (.arr 24 1 [.val (.int .u8 ((0 : Nat) : Int)), .val (.int .u8 ((0 : Nat) : Int)), .val (.int .u8 ((0 : Nat) : Int)), .val (.int .u8 ((0 : Nat) : Int)), .val (.int .u8 ((0 : Nat) : Int)), .val (.int .u8 ((0 : Nat) : Int)), .val (.int .u8 ((0 : Nat) : Int)), .val (.int .u8 ((0 : Nat) : Int)), .val (.int .u8 ((0 : Nat) : Int)), .val (.int .u8 ((0 : Nat) : Int)), .val (.int .u8 ((0 : Nat) : Int)), .val (.int .u8 ((0 : Nat) : Int)), .val (.int .u8 ((0 : Nat) : Int)), .val (.int .u8 ((0 : Nat) : Int)), .val (.int .u8 ((0 : Nat) : Int)), .val (.int .u8 ((0 : Nat) : Int)), .val (.int .u8 ((0 : Nat) : Int)), .val (.int .u8 ((0 : Nat) : Int)), .val (.int .u8 ((0 : Nat) : Int)), .val (.int .u8 ((0 : Nat) : Int)), .val (.int .u8 ((0 : Nat) : Int)), .val (.int .u8 ((0 : Nat) : Int)), .val (.int .u8 ((0 : Nat) : Int)), .val (.int .u8 ((0 : Nat) : Int))]))] [0, 5])
 (.seq (.ops [mv_ 16 0,
  so_ 17 (.call 127 [.t 16]),
  mv_ 6 17] [0, 5, 6])
 (.seq (.ops [mv_ 18 6,
  po_ 19 (.slA 24 1 (.t 5) none (some (.t 18))),
  mv_ 20 0,
  so_ 21 (.call 128 [.t 19, .t 20])] [5, 6])
 (.seq (.ops [mv_ 22 6,
  po_ 23 (.slA 24 1 (.t 5) none (some (.t 22))),
  po_ 24 (.b2s (.t 23)),
  mv_ 4 24] [4])
 (.ret)))))
def Gi : Af := .cond (.t 10)
 F6
 (.skip)
def FW : Af := .seq (.seq (.ops [mv_ 9 1,
  po_ 10 (.bin 3 .eql (.t 9) (ci_ 10))] [0, 1, 10])
 Gi)
 (.seq (.ops [mv_ 26 0,
  mv_ 27 1,
  so_ 28 (.call 129 [.c (.slice none 0 0), .t 26, .t 27, .c (.bool false), .c (.bool false)]),
  mv_ 25 28,
  po_ 29 (.ext 0 (.t 25)),
  po_ 30 (.ext 1 (.t 25)),
  mv_ 7 29,
  mv_ 8 30] [8])
 (.seq (.ops [mv_ 31 8,
  mv_ 4 31] [4])
 (.ret)))
def G8 : Af := .seq (.ops [po_ 4 (.mov (.c (.string (str []))))] [0, 1])
 FW
def G5 : List VR := [.tmp 4]
theorem Qx : Tryz.f180.body.bind (trC Tryz.prog Tryz.f180.ntmps) = some (er G8) := by kernel_rfl
theorem Qy : trR Tryz.prog Tryz.f180.results.toList = some G5 := by kernel_rfl
def Jy := Aa F6.eq_1
def Jz := Aa Gi.eq_1
def Jw := Aa FW.eq_1
def Ot := Aa G8.eq_1
theorem Oq {K : TV → Prop} {e : Env} {H : List Ob} : res G5 e H K = res [.tmp 4] e H K := Ac rfl
def CP := (And.intro (And.intro (And.intro @Jy @Jz) (And.intro @Jw @Ot)) @Oq)
def P5 := DD 32 Tryz.func180 Qx Qy rfl

def QY : Af := .seq (.ops [po_ 4 (.mov (.c (.string (str []))))] [0, 1])
 (.seq (.ops [mv_ 5 0,
  mv_ 6 1,
  so_ 7 (.call 180 [.t 5, .t 6]),
  mv_ 4 7] [4])
 (.ret))
def Q7 : List VR := [.tmp 4]
theorem AbH : Tryz.f168.body.bind (trC Tryz.prog Tryz.f168.ntmps) = some (er QY) := by kernel_rfl
theorem AbQ : trR Tryz.prog Tryz.f168.results.toList = some Q7 := by kernel_rfl
def ZC := Aa QY.eq_1
theorem ZJ {K : TV → Prop} {e : Env} {H : List Ob} : res Q7 e H K = res [.tmp 4] e H K := Ac rfl
def Rk := (And.intro @ZC @ZJ)
def Aa1 := DD 8 Tryz.func168 AbH AbQ rfl

def EJ : Af := .seq (.draw 11 [mv_ 81 0,
  mv_ 82 4,
  po_ 83 (.bin 3 .sub (.t 82) (ci_ 7)),
  mv_ 84 0,
  mv_ 85 4,
  po_ 86 (.bin 3 .sub (.t 85) (ci_ 8)),
  mv_ 87 10,
  po_ 88 (.bin 203 .add (.t 87) (.c (.int .u32 ((1 : Nat) : Int)))),
  po_ 89 (.idxS (.c (.string BC)) (.t 88)),
  mv_ 90 10,
  po_ 91 (.idxS (.c (.string BC)) (.t 90)),
  po_ 92 (.idxA 1 (.t 81) (.t 83)),
  ⟨none, .s (.store 1 (.t 92) (.t 89)), none⟩,
  po_ 93 (.idxA 1 (.t 84) (.t 86)),
  ⟨none, .s (.store 1 (.t 93) (.t 91)), none⟩] [0, 1, 4])
 (.ops [mv_ 94 4,
  po_ 95 (.bin 3 .sub (.t 94) (ci_ 8)),
  mv_ 4 95] [0, 1, 4])
def EM : Af := .seq (.draw 11 [mv_ 68 0,
  mv_ 69 4,
  po_ 70 (.bin 3 .sub (.t 69) (ci_ 5)),
  mv_ 71 0,
  mv_ 72 4,
  po_ 73 (.bin 3 .sub (.t 72) (ci_ 6)),
  mv_ 74 11,
  po_ 75 (.bin 203 .add (.t 74) (.c (.int .u32 ((1 : Nat) : Int)))),
  po_ 76 (.idxS (.c (.string BC)) (.t 75)),
  mv_ 77 11,
  po_ 78 (.idxS (.c (.string BC)) (.t 77)),
  po_ 79 (.idxA 1 (.t 68) (.t 70)),
  ⟨none, .s (.store 1 (.t 79) (.t 76)), none⟩,
  po_ 80 (.idxA 1 (.t 71) (.t 73)),
  ⟨none, .s (.store 1 (.t 80) (.t 78)), none⟩] [0, 1, 4, 10])
 EJ
def EQ : Af := .seq (.draw 11 [mv_ 55 0,
  mv_ 56 4,
  po_ 57 (.bin 3 .sub (.t 56) (ci_ 3)),
  mv_ 58 0,
  mv_ 59 4,
  po_ 60 (.bin 3 .sub (.t 59) (ci_ 4)),
  mv_ 61 8,
  po_ 62 (.bin 203 .add (.t 61) (.c (.int .u32 ((1 : Nat) : Int)))),
  po_ 63 (.idxS (.c (.string BC)) (.t 62)),
  mv_ 64 8,
  po_ 65 (.idxS (.c (.string BC)) (.t 64)),
  po_ 66 (.idxA 1 (.t 55) (.t 57)),
  ⟨none, .s (.store 1 (.t 66) (.t 63)), none⟩,
  po_ 67 (.idxA 1 (.t 58) (.t 60)),
  ⟨none, .s (.store 1 (.t 67) (.t 65)), none⟩] [0, 1, 4, 10, 11])
 EM
def EI : Af := .seq (.draw 11 [mv_ 42 0,
  mv_ 43 4,
  po_ 44 (.bin 3 .sub (.t 43) (ci_ 1)),
  mv_ 45 0,
  mv_ 46 4,
  po_ 47 (.bin 3 .sub (.t 46) (ci_ 2)),
  mv_ 48 9,
  po_ 49 (.bin 203 .add (.t 48) (.c (.int .u32 ((1 : Nat) : Int)))),
  po_ 50 (.idxS (.c (.string BC)) (.t 49)),
  mv_ 51 9,
  po_ 52 (.idxS (.c (.string BC)) (.t 51)),
  po_ 53 (.idxA 1 (.t 42) (.t 44)),
  ⟨none, .s (.store 1 (.t 53) (.t 50)), none⟩,
  po_ 54 (.idxA 1 (.t 45) (.t 47)),
  ⟨none, .s (.store 1 (.t 54) (.t 52)), none⟩] [0, 1, 4, 8, 10, 11])
 EQ
def EH : Af := .seq (.ops [mv_ 36 6,
  po_ 37 (.bin 203 .quo (.t 36) (.c (.int .u32 ((100 : Nat) : Int)))),
  po_ 38 (.bin 203 .mul (.t 37) (.c (.int .u32 ((2 : Nat) : Int)))),
  mv_ 39 6,
  po_ 40 (.bin 203 .rem (.t 39) (.c (.int .u32 ((100 : Nat) : Int)))),
  po_ 41 (.bin 203 .mul (.t 40) (.c (.int .u32 ((2 : Nat) : Int)))),
  mv_ 10 38,
  mv_ 11 41] [0, 1, 4, 8, 9, 10, 11])
 EI
def Ey : Af := .seq (.ops [mv_ 30 7,
  po_ 31 (.bin 203 .quo (.t 30) (.c (.int .u32 ((100 : Nat) : Int)))),
  po_ 32 (.bin 203 .mul (.t 31) (.c (.int .u32 ((2 : Nat) : Int)))),
  mv_ 33 7,
  po_ 34 (.bin 203 .rem (.t 33) (.c (.int .u32 ((100 : Nat) : Int)))),
  po_ 35 (.bin 203 .mul (.t 34) (.c (.int .u32 ((2 : Nat) : Int)))),
  mv_ 8 32,
  mv_ 9 35] [0, 1, 4, 6, 8, 9])
 EH
def CY : Af := .seq (.ops [mv_ 26 5,
  po_ 27 (.bin 203 .quo (.t 26) (.c (.int .u32 ((10000 : Nat) : Int)))),
  mv_ 28 5,
  po_ 29 (.bin 203 .rem (.t 28) (.c (.int .u32 ((10000 : Nat) : Int)))),
  mv_ 6 27,
  mv_ 7 29] [0, 1, 4, 6, 7])
 Ey
def EK : Af := .seq (.ops [mv_ 24 1,
  po_ 25 (.bin 163 .quo (.t 24) (.c (.int .u64 ((100000000 : Nat) : Int)))),
  mv_ 1 25] [0, 1, 4, 5])
 CY
def EZ : Af := .block 1 (.seq (.ops [mv_ 21 1,
  po_ 22 (.bin 163 .rem (.t 21) (.c (.int .u64 ((100000000 : Nat) : Int)))),
  po_ 23 (.conv .u32 (.t 22)),
  mv_ 5 23] [0, 1, 4, 5])
 EK)
def Ea : Af := .seq (.seq (.ops [mv_ 19 4,
  po_ 20 (.bin 3 .geq (.t 19) (ci_ 8))] [0, 1, 4, 20])
 (.cond (.t 20)
 (.skip)
 (.exit 0)))
 EZ
def D8 : Af := .seq (.draw 11 [mv_ 123 0,
  mv_ 124 4,
  po_ 125 (.bin 3 .sub (.t 124) (ci_ 3)),
  mv_ 126 0,
  mv_ 127 4,
  po_ 128 (.bin 3 .sub (.t 127) (ci_ 4)),
  mv_ 129 14,
  po_ 130 (.bin 203 .add (.t 129) (.c (.int .u32 ((1 : Nat) : Int)))),
  po_ 131 (.idxS (.c (.string BC)) (.t 130)),
  mv_ 132 14,
  po_ 133 (.idxS (.c (.string BC)) (.t 132)),
  po_ 134 (.idxA 1 (.t 123) (.t 125)),
  ⟨none, .s (.store 1 (.t 134) (.t 131)), none⟩,
  po_ 135 (.idxA 1 (.t 126) (.t 128)),
  ⟨none, .s (.store 1 (.t 135) (.t 133)), none⟩] [0, 4, 12])
 (.ops [mv_ 136 4,
  po_ 137 (.bin 3 .sub (.t 136) (ci_ 4)),
  mv_ 4 137] [0, 4, 12])
def Eg : Af := .seq (.draw 11 [mv_ 110 0,
  mv_ 111 4,
  po_ 112 (.bin 3 .sub (.t 111) (ci_ 1)),
  mv_ 113 0,
  mv_ 114 4,
  po_ 115 (.bin 3 .sub (.t 114) (ci_ 2)),
  mv_ 116 15,
  po_ 117 (.bin 203 .add (.t 116) (.c (.int .u32 ((1 : Nat) : Int)))),
  po_ 118 (.idxS (.c (.string BC)) (.t 117)),
  mv_ 119 15,
  po_ 120 (.idxS (.c (.string BC)) (.t 119)),
  po_ 121 (.idxA 1 (.t 110) (.t 112)),
  ⟨none, .s (.store 1 (.t 121) (.t 118)), none⟩,
  po_ 122 (.idxA 1 (.t 113) (.t 115)),
  ⟨none, .s (.store 1 (.t 122) (.t 120)), none⟩] [0, 4, 12, 14])
 D8
def Ec : Af := .seq (.ops [mv_ 104 13,
  po_ 105 (.bin 203 .quo (.t 104) (.c (.int .u32 ((100 : Nat) : Int)))),
  po_ 106 (.bin 203 .mul (.t 105) (.c (.int .u32 ((2 : Nat) : Int)))),
  mv_ 107 13,
  po_ 108 (.bin 203 .rem (.t 107) (.c (.int .u32 ((100 : Nat) : Int)))),
  po_ 109 (.bin 203 .mul (.t 108) (.c (.int .u32 ((2 : Nat) : Int)))),
  mv_ 14 106,
  mv_ 15 109] [0, 4, 12, 14, 15])
 Eg
def D9 : Af := .seq (.ops [mv_ 102 12,
  po_ 103 (.bin 203 .quo (.t 102) (.c (.int .u32 ((10000 : Nat) : Int)))),
  mv_ 12 103] [0, 4, 12, 13])
 Ec
def Eb : Af := .seq (.ops [mv_ 100 12,
  po_ 101 (.bin 203 .rem (.t 100) (.c (.int .u32 ((10000 : Nat) : Int)))),
  mv_ 13 101] [0, 4, 12, 13])
 D9
def D6 : Af := .cond (.t 99)
 Eb
 (.skip)
def D5 : Af := .seq (.draw 11 [mv_ 145 0,
  mv_ 146 4,
  po_ 147 (.bin 3 .sub (.t 146) (ci_ 1)),
  mv_ 148 0,
  mv_ 149 4,
  po_ 150 (.bin 3 .sub (.t 149) (ci_ 2)),
  mv_ 151 16,
  po_ 152 (.bin 203 .add (.t 151) (.c (.int .u32 ((1 : Nat) : Int)))),
  po_ 153 (.idxS (.c (.string BC)) (.t 152)),
  mv_ 154 16,
  po_ 155 (.idxS (.c (.string BC)) (.t 154)),
  po_ 156 (.idxA 1 (.t 145) (.t 147)),
  ⟨none, .s (.store 1 (.t 156) (.t 153)), none⟩,
  po_ 157 (.idxA 1 (.t 148) (.t 150)),
  ⟨none, .s (.store 1 (.t 157) (.t 155)), none⟩] [0, 4, 12])
 (.ops [mv_ 158 4,
  po_ 159 (.bin 3 .sub (.t 158) (ci_ 2)),
  mv_ 4 159] [0, 4, 12])
def Ee : Af := .seq (.ops [mv_ 143 12,
  po_ 144 (.bin 203 .quo (.t 143) (.c (.int .u32 ((100 : Nat) : Int)))),
  mv_ 12 144] [0, 4, 12, 16])
 D5
def D7 : Af := .seq (.ops [mv_ 140 12,
  po_ 141 (.bin 203 .rem (.t 140) (.c (.int .u32 ((100 : Nat) : Int)))),
  po_ 142 (.bin 203 .mul (.t 141) (.c (.int .u32 ((2 : Nat) : Int)))),
  mv_ 16 142] [0, 4, 12, 16])
 Ee
def Ej : Af := .cond (.t 139)
 D7
 (.skip)
def CU : Af := .seq (.seq (.ops [mv_ 138 4,
  po_ 139 (.bin 3 .geq (.t 138) (ci_ 2))] [0, 4, 12, 139])
 Ej)
 (.seq (.ops [mv_ 160 4,
  po_ 161 (.bin 3 .gtr (.t 160) (ci_ 0))] [0, 12, 161])
 (.cond (.t 161)
 (.ops [mv_ 162 0,
   mv_ 163 12,
   po_ 164 (.bin 203 .add (.c (.int .u32 ((48 : Nat) : Int))) (.t 163)),
   po_ 165 (.conv .u8 (.t 164)),
   po_ 166 (.idxA 1 (.t 162) (ci_ 0)),
   ⟨none, .s (.store 1 (.t 166) (.t 165)), none⟩] [])
 (.skip)))
def CV : Af := .seq (.seq (.ops [mv_ 98 4,
  po_ 99 (.bin 3 .geq (.t 98) (ci_ 4))] [0, 4, 12, 99])
 D6)
 CU
def Ei : Af := .seq (.ops [mv_ 96 1,
  po_ 97 (.conv .u32 (.t 96)),
  mv_ 12 97] [0, 4, 12])
 CV
def Ef : Af := .seq (.block 0 (.loop [0, 1, 4] Ea))
 Ei
def Gx : Af := .seq (.ops [mv_ 17 0,
  po_ 18 (.lenV (.t 17)),
  mv_ 4 18] [0, 1, 4])
 Ef
def Cf : List VR := []
theorem Og : Tryz.f128.body.bind (trC Tryz.prog Tryz.f128.ntmps) = some (er Gx) := by kernel_rfl
theorem OC : trR Tryz.prog Tryz.f128.results.toList = some Cf := by kernel_rfl
def IY := Aa EJ.eq_1
def IP := Aa EM.eq_1
def Jc := Aa EQ.eq_1
def IV := Aa EI.eq_1
def IM := Aa EH.eq_1
def I5 := Aa Ey.eq_1
def I8 := Aa CY.eq_1
def IB := Aa EK.eq_1
def IK := Aa EZ.eq_1
def DF := Aa Ea.eq_1
def Ir := Aa D8.eq_1
def Iq := Aa Eg.eq_1
def Ip := Aa Ec.eq_1
def Iz := Aa D9.eq_1
def Iu := Aa Eb.eq_1
def DN := Aa D6.eq_1
def DL := Aa D5.eq_1
def DI := Aa Ee.eq_1
def DJ := Aa D7.eq_1
def BD := Aa Ej.eq_1
def BF := Aa CU.eq_1
def DK := Aa CV.eq_1
def Il := Aa Ei.eq_1
def Io := Aa Ef.eq_1
def Lj := Aa Gx.eq_1
theorem BZ {K : TV → Prop} {e : Env} {H : List Ob} : res Cf e H K = res [] e H K := Ac rfl
def MG := DD 167 Tryz.func128 Og OC rfl

def OH : Af := .seq (.ops [mv_ 65 0,
  po_ 66 (.lenS (.t 65)),
  po_ 67 (.bin 3 .geq (.t 66) (ci_ 3)),
  mv_ 68 67,
  ⟨some 69, .p (.mov (.t 0)), some ⟨68, true⟩⟩,
  ⟨some 70, .p (.idxS (.t 69) (ci_ 1)), some ⟨68, true⟩⟩,
  ⟨some 71, .s (.call 151 [.t 70]), some ⟨68, true⟩⟩,
  ⟨some 72, .p (.bin 5 .eql (.t 71) (.c (.int .u8 ((120 : Nat) : Int)))), some ⟨68, true⟩⟩,
  po_ 73 (.pick (.t 68) (.t 72) (.c (.bool false))),
  mv_ 64 73] [0, 2, 8, 9, 64])
 (.cond (.t 64)
 (.seq (.ops [po_ 1 (.mov (ci_ 16))] [0, 1, 2, 8, 9])
  (.ops [mv_ 74 0,
   po_ 75 (.slS (.t 74) (some (ci_ 2)) none),
   mv_ 0 75] [0, 1, 2, 8, 9]))
 (.seq (.ops [po_ 1 (.mov (ci_ 8))] [0, 1, 2, 8, 9])
  (.ops [mv_ 38 0,
   po_ 39 (.slS (.t 38) (some (ci_ 1)) none),
   mv_ 0 39] [0, 1, 2, 8, 9])))
def OL : Af := .cond (.t 52)
 (.seq (.ops [po_ 1 (.mov (ci_ 8))] [0, 1, 2, 8, 9])
  (.ops [mv_ 62 0,
   po_ 63 (.slS (.t 62) (some (ci_ 2)) none),
   mv_ 0 63] [0, 1, 2, 8, 9]))
 OH
def OD : Af := .seq (.ops [mv_ 53 0,
  po_ 54 (.lenS (.t 53)),
  po_ 55 (.bin 3 .geq (.t 54) (ci_ 3)),
  mv_ 56 55,
  ⟨some 57, .p (.mov (.t 0)), some ⟨56, true⟩⟩,
  ⟨some 58, .p (.idxS (.t 57) (ci_ 1)), some ⟨56, true⟩⟩,
  ⟨some 59, .s (.call 151 [.t 58]), some ⟨56, true⟩⟩,
  ⟨some 60, .p (.bin 5 .eql (.t 59) (.c (.int .u8 ((111 : Nat) : Int)))), some ⟨56, true⟩⟩,
  po_ 61 (.pick (.t 56) (.t 60) (.c (.bool false))),
  mv_ 52 61] [0, 2, 8, 9, 52])
 OL
def Om : Af := .cond (.t 40)
 (.seq (.ops [po_ 1 (.mov (ci_ 2))] [0, 1, 2, 8, 9])
  (.ops [mv_ 50 0,
   po_ 51 (.slS (.t 50) (some (ci_ 2)) none),
   mv_ 0 51] [0, 1, 2, 8, 9]))
 OD
def Oj : Af := .block 1 (.seq (.ops [mv_ 41 0,
  po_ 42 (.lenS (.t 41)),
  po_ 43 (.bin 3 .geq (.t 42) (ci_ 3)),
  mv_ 44 43,
  ⟨some 45, .p (.mov (.t 0)), some ⟨44, true⟩⟩,
  ⟨some 46, .p (.idxS (.t 45) (ci_ 1)), some ⟨44, true⟩⟩,
  ⟨some 47, .s (.call 151 [.t 46]), some ⟨44, true⟩⟩,
  ⟨some 48, .p (.bin 5 .eql (.t 47) (.c (.int .u8 ((98 : Nat) : Int)))), some ⟨44, true⟩⟩,
  po_ 49 (.pick (.t 44) (.t 48) (.c (.bool false))),
  mv_ 40 49] [0, 2, 8, 9, 40])
 Om)
def Oe : Af := .cond (.t 37)
 Oj
 (.skip)
def Oh : Af := .seq (.ops [mv_ 35 0,
  po_ 36 (.idxS (.t 35) (ci_ 0)),
  po_ 37 (.bin 5 .eql (.t 36) (.c (.int .u8 ((48 : Nat) : Int))))] [0, 1, 2, 8, 9, 37])
 Oe
def Oo : Af := .seq (.ops [po_ 1 (.mov (ci_ 10))] [0, 1, 2, 8, 9])
 Oh
def Ol : Af := .cond (.t 32)
 Oo
 (.seq (.ops [po_ 24 (.iface 228 (ci_ 3)),
   po_ 6 (.mov (.c (.int .u64 ((0 : Nat) : Int)))),
   mv_ 7 24] [6, 7])
  (.ret))
def MC : Af := .seq (.ops [mv_ 33 1,
  po_ 34 (.bin 3 .eql (.t 33) (ci_ 0)),
  mv_ 32 34] [0, 2, 8, 9, 32])
 Ol
def Gh : Af := .cond (.t 25)
 (.skip)
 MC
def FZ : Af := .seq (.ops [mv_ 78 2,
  po_ 79 (.bin 3 .lss (.t 78) (ci_ 0)),
  mv_ 80 79,
  ⟨some 81, .p (.mov (.t 2)), some ⟨80, false⟩⟩,
  ⟨some 82, .p (.bin 3 .gtr (.t 81) (ci_ 64)), some ⟨80, false⟩⟩,
  po_ 83 (.pick (.t 80) (.c (.bool true)) (.t 82))] [0, 1, 2, 8, 9, 83])
 (.cond (.t 83)
 (.seq (.ops [po_ 84 (.iface 228 (ci_ 4)),
   po_ 6 (.mov (.c (.int .u64 ((0 : Nat) : Int)))),
   mv_ 7 84] [6, 7])
  (.ret))
 (.skip))
def MB : Af := .seq (.ops [po_ 93 (.bin 3 .eql (.t 85) (ci_ 16)),
  mv_ 92 93] [0, 1, 2, 8, 9, 92])
 (.cond (.t 92)
 (.ops [po_ 10 (.mov (.c (.int .u64 ((1152921504606846976 : Nat) : Int))))] [0, 1, 2, 8, 9, 10])
 (.ops [mv_ 86 1,
   po_ 87 (.conv .u64 (.t 86)),
   po_ 88 (.bin 163 .quo (.c (.int .u64 ((18446744073709551615 : Nat) : Int))) (.t 87)),
   po_ 89 (.bin 163 .add (.t 88) (.c (.int .u64 ((1 : Nat) : Int)))),
   mv_ 10 89] [0, 1, 2, 8, 9, 10]))
def FV : Af := .seq (.ops [mv_ 122 15,
  so_ 123 (.call 151 [.t 122]),
  po_ 124 (.bin 5 .leq (.c (.int .u8 ((97 : Nat) : Int))) (.t 123)),
  mv_ 125 124,
  ⟨some 126, .p (.mov (.t 15)), some ⟨125, true⟩⟩,
  ⟨some 127, .s (.call 151 [.t 126]), some ⟨125, true⟩⟩,
  ⟨some 128, .p (.bin 5 .leq (.t 127) (.c (.int .u8 ((122 : Nat) : Int)))), some ⟨125, true⟩⟩,
  po_ 129 (.pick (.t 125) (.t 128) (.c (.bool false))),
  mv_ 121 129] [1, 8, 9, 10, 11, 12, 13, 15, 99, 100, 101, 121])
 (.cond (.t 121)
 (.ops [mv_ 130 15,
   so_ 131 (.call 151 [.t 130]),
   po_ 132 (.bin 5 .sub (.t 131) (.c (.int .u8 ((97 : Nat) : Int)))),
   po_ 133 (.bin 5 .add (.t 132) (.c (.int .u8 ((10 : Nat) : Int)))),
   mv_ 16 133] [1, 8, 9, 10, 11, 12, 13, 16, 99, 100, 101])
 (.seq (.ops [po_ 105 (.iface 228 (ci_ 2)),
   po_ 6 (.mov (.c (.int .u64 ((0 : Nat) : Int)))),
   mv_ 7 105] [6, 7])
  (.ret)))
def F5 : Af := .cond (.t 112)
 (.ops [mv_ 119 15,
   po_ 120 (.bin 5 .sub (.t 119) (.c (.int .u8 ((48 : Nat) : Int)))),
   mv_ 16 120] [1, 8, 9, 10, 11, 12, 13, 16, 99, 100, 101])
 FV
def F8 : Af := .seq (.ops [mv_ 113 15,
  po_ 114 (.bin 5 .leq (.c (.int .u8 ((48 : Nat) : Int))) (.t 113)),
  mv_ 115 114,
  ⟨some 116, .p (.mov (.t 15)), some ⟨115, true⟩⟩,
  ⟨some 117, .p (.bin 5 .leq (.t 116) (.c (.int .u8 ((57 : Nat) : Int)))), some ⟨115, true⟩⟩,
  po_ 118 (.pick (.t 115) (.t 117) (.c (.bool false))),
  mv_ 112 118] [1, 8, 9, 10, 11, 12, 13, 15, 99, 100, 101, 112])
 F5
def F9 : Af := .cond (.t 106)
 (.seq (.ops [po_ 12 (.mov (.c (.bool true)))] [1, 8, 9, 10, 11, 12, 13, 99, 100, 101])
  (.exit 4))
 F8
def FK : Af := .seq (.seq (.ops [mv_ 152 17,
  mv_ 153 13,
  po_ 154 (.bin 163 .lss (.t 152) (.t 153)),
  mv_ 155 154,
  ⟨some 156, .p (.mov (.t 17)), some ⟨155, false⟩⟩,
  ⟨some 157, .p (.mov (.t 11)), some ⟨155, false⟩⟩,
  ⟨some 158, .p (.bin 163 .gtr (.t 156) (.t 157)), some ⟨155, false⟩⟩,
  po_ 159 (.pick (.t 155) (.c (.bool true)) (.t 158))] [1, 8, 9, 10, 11, 12, 17, 99, 100, 101, 159])
 (.cond (.t 159)
 (.seq (.ops [mv_ 160 11,
   po_ 161 (.iface 228 (ci_ 1)),
   mv_ 6 160,
   mv_ 7 161] [6, 7])
  (.ret))
 (.skip)))
 (.ops [mv_ 162 17,
  mv_ 13 162] [1, 8, 9, 10, 11, 12, 13, 99, 100, 101])
def FC : Af := .seq (.ops [mv_ 148 13,
  mv_ 149 16,
  po_ 150 (.conv .u64 (.t 149)),
  po_ 151 (.bin 163 .add (.t 148) (.t 150)),
  mv_ 17 151] [1, 8, 9, 10, 11, 12, 13, 17, 99, 100, 101])
 FK
def Gn : Af := .seq (.ops [mv_ 144 13,
  mv_ 145 1,
  po_ 146 (.conv .u64 (.t 145)),
  po_ 147 (.bin 163 .mul (.t 144) (.t 146)),
  mv_ 13 147] [1, 8, 9, 10, 11, 12, 13, 16, 99, 100, 101])
 FC
def Gm : Af := .seq (.seq (.ops [mv_ 139 13,
  mv_ 140 10,
  po_ 141 (.bin 163 .geq (.t 139) (.t 140))] [1, 8, 9, 10, 11, 12, 13, 16, 99, 100, 101, 141])
 (.cond (.t 141)
 (.seq (.ops [mv_ 142 11,
   po_ 143 (.iface 228 (ci_ 1)),
   mv_ 6 142,
   mv_ 7 143] [6, 7])
  (.ret))
 (.skip)))
 Gn
def FQ : Af := .seq (.seq (.ops [mv_ 134 16,
  mv_ 135 1,
  po_ 136 (.conv .u8 (.t 135)),
  po_ 137 (.bin 5 .geq (.t 134) (.t 136))] [1, 8, 9, 10, 11, 12, 13, 16, 99, 100, 101, 137])
 (.cond (.t 137)
 (.seq (.ops [po_ 138 (.iface 228 (ci_ 2)),
   po_ 6 (.mov (.c (.int .u64 ((0 : Nat) : Int)))),
   mv_ 7 138] [6, 7])
  (.ret))
 (.skip)))
 Gm
def Gp : Af := .seq (.block 5 (.seq (.ops [mv_ 107 15,
  po_ 108 (.bin 5 .eql (.t 107) (.c (.int .u8 ((95 : Nat) : Int)))),
  mv_ 109 108,
  ⟨some 110, .p (.mov (.t 8)), some ⟨109, true⟩⟩,
  po_ 111 (.pick (.t 109) (.t 110) (.c (.bool false))),
  mv_ 106 111] [1, 8, 9, 10, 11, 12, 13, 15, 99, 100, 101, 106])
 F9))
 FQ
def FI : Af := .seq (.ops [po_ 16 (.mov (.c (.int .u8 ((0 : Nat) : Int))))] [1, 8, 9, 10, 11, 12, 13, 15, 99, 100, 101])
 Gp
def Gf : Af := .seq (.block 4 (.seq (.ops [po_ 103 (.idxA 1 (.t 99) (.t 101)),
  po_ 104 (.load false 1 (.t 103)),
  mv_ 15 104] [1, 8, 9, 10, 11, 12, 13, 15, 99, 100, 101])
 FI))
 (.ops [po_ 163 (.bin 3 .add (.t 101) (ci_ 1)),
  mv_ 101 163] [1, 8, 9, 10, 11, 12, 13, 99, 100, 101])
def FN : Af := .seq (.cond (.t 102)
 (.skip)
 (.exit 3))
 Gf
def FH : Af := .seq (.ops [po_ 102 (.bin 3 .lss (.t 101) (.t 100))] [1, 8, 9, 10, 11, 12, 13, 99, 100, 101, 102])
 FN
def FD : Af := .block 3 (.loop [1, 8, 9, 10, 11, 12, 13, 99, 100, 101] FH)
def FX : Af := .seq (.seq (.ops [mv_ 164 12,
  mv_ 165 164,
  ⟨some 166, .p (.mov (.t 9)), some ⟨165, true⟩⟩,
  ⟨some 167, .s (.call 152 [.t 166]), some ⟨165, true⟩⟩,
  ⟨some 168, .p (.un .not (.t 167)), some ⟨165, true⟩⟩,
  po_ 169 (.pick (.t 165) (.t 168) (.c (.bool false)))] [13, 169])
 (.cond (.t 169)
 (.seq (.ops [po_ 170 (.iface 228 (ci_ 2)),
   po_ 6 (.mov (.c (.int .u64 ((0 : Nat) : Int)))),
   mv_ 7 170] [6, 7])
  (.ret))
 (.skip)))
 (.seq (.ops [mv_ 171 13,
  mv_ 6 171,
  po_ 7 (.mov (.c .nilIface))] [6, 7])
 (.ret))
def FT : Af := .seq (.seq (.ops [mv_ 98 0,
  so_ 99 (.s2b (.t 98)),
  po_ 100 (.lenV (.t 99)),
  po_ 101 (.mov (ci_ 0))] [1, 8, 9, 10, 11, 12, 13, 99, 100, 101])
 FD)
 FX
def FP : Af := .seq (.ops [po_ 13 (.mov (.c (.int .u64 ((0 : Nat) : Int))))] [0, 1, 8, 9, 10, 11, 12, 13])
 FT
def Fv : Af := .seq (.ops [po_ 12 (.mov (.c (.bool false)))] [0, 1, 8, 9, 10, 11, 12])
 FP
def F7 : Af := .seq (.ops [mv_ 94 2,
  po_ 95 (.conv .u64 (.t 94)),
  po_ 96 (.bin 163 .shl (.c (.int .u64 ((1 : Nat) : Int))) (.t 95)),
  po_ 97 (.bin 163 .sub (.t 96) (.c (.int .u64 ((1 : Nat) : Int)))),
  mv_ 11 97] [0, 1, 8, 9, 10, 11])
 Fv
def Gs : Af := .seq (.seq (.ops [mv_ 85 1] [0, 1, 2, 8, 9, 85])
 (.block 2 (.seq (.ops [po_ 91 (.bin 3 .eql (.t 85) (ci_ 10)),
  mv_ 90 91] [0, 1, 2, 8, 9, 85, 90])
 (.cond (.t 90)
 (.ops [po_ 10 (.mov (.c (.int .u64 ((1844674407370955162 : Nat) : Int))))] [0, 1, 2, 8, 9, 10])
 MB))))
 F7
def FO : Af := .seq (.ops [po_ 10 (.mov (.c (.int .u64 ((0 : Nat) : Int))))] [0, 1, 2, 8, 9])
 Gs
def Gj : Af := .seq (.seq (.ops [mv_ 76 2,
  po_ 77 (.bin 3 .eql (.t 76) (ci_ 0))] [0, 1, 2, 8, 9, 77])
 (.cond (.t 77)
 (.ops [po_ 2 (.mov (ci_ 64))] [0, 1, 2, 8, 9])
 FZ))
 FO
def Gg : Af := .seq (.block 0 (.seq (.ops [mv_ 26 1,
  po_ 27 (.bin 3 .leq (ci_ 2) (.t 26)),
  mv_ 28 27,
  ⟨some 29, .p (.mov (.t 1)), some ⟨28, true⟩⟩,
  ⟨some 30, .p (.bin 3 .leq (.t 29) (ci_ 36)), some ⟨28, true⟩⟩,
  po_ 31 (.pick (.t 28) (.t 30) (.c (.bool false))),
  mv_ 25 31] [0, 1, 2, 8, 9, 25])
 Gh))
 Gj
def FY : Af := .seq (.ops [mv_ 23 0,
  mv_ 9 23] [0, 1, 2, 8, 9])
 Gg
def FU : Af := .seq (.ops [mv_ 21 1,
  po_ 22 (.bin 3 .eql (.t 21) (ci_ 0)),
  mv_ 8 22] [0, 1, 2, 8])
 FY
def FB : Af := .seq (.seq (.ops [mv_ 18 0,
  po_ 19 (.bin 9 .eql (.t 18) (.c (.string (str []))))] [0, 1, 2, 19])
 (.cond (.t 19)
 (.seq (.ops [po_ 20 (.iface 228 (ci_ 2)),
   po_ 6 (.mov (.c (.int .u64 ((0 : Nat) : Int)))),
   mv_ 7 20] [6, 7])
  (.ret))
 (.skip)))
 FU
def Hr : Af := .seq (.ops [po_ 6 (.mov (.c (.int .u64 ((0 : Nat) : Int)))),
  po_ 7 (.mov (.c .nilIface))] [0, 1, 2])
 FB
def Ht : List VR := [.tmp 6, .tmp 7]
theorem RF : Tryz.f123.body.bind (trC Tryz.prog Tryz.f123.ntmps) = some (er Hr) := by kernel_rfl
theorem RG : trR Tryz.prog Tryz.f123.results.toList = some Ht := by kernel_rfl
def EC := Aa Gh.eq_1
def Ew := Aa FZ.eq_1
def Be := Aa FV.eq_1
def Az := Aa F5.eq_1
def Bc := Aa F8.eq_1
def Ba := Aa F9.eq_1
def ER := Aa FK.eq_1
def Eu := Aa FC.eq_1
def ES := Aa Gn.eq_1
def CZ := Aa Gm.eq_1
def A7 := Aa FQ.eq_1
def AY := Aa Gp.eq_1
def AZ := Aa FI.eq_1
def A8 := Aa Gf.eq_1
def AB := Aa FN.eq_1
def AA := Aa FH.eq_1
def Ez := Aa FD.eq_1
def EE := Aa FX.eq_1
def EU := Aa FT.eq_1
def ED := Aa FP.eq_1
def EX := Aa Fv.eq_1
def EN := Aa F7.eq_1
def EF := Aa Gs.eq_1
def EG := Aa FO.eq_1
def EY := Aa Gj.eq_1
def EW := Aa Gg.eq_1
def EP := Aa FY.eq_1
def EO := Aa FU.eq_1
def BP := Aa FB.eq_1
def CE := Aa Hr.eq_1
theorem Aj {K : TV → Prop} {e : Env} {H : List Ob} : res Ht e H K = res [.tmp 6, .tmp 7] e H K := Ac rfl
def Ha := DD 172 Tryz.func123 RF RG rfl

def Jq : Af := .seq (.ops [po_ 2 (.mov (.c (.int .u8 ((0 : Nat) : Int))))] [0])
 (.seq (.ops [mv_ 3 0,
  po_ 4 (.bin 5 .or (.t 3) (.c (.int .u8 ((32 : Nat) : Int)))),
  mv_ 2 4] [2])
 (.ret))
def Jv : List VR := [.tmp 2]
theorem V6 : Tryz.f151.body.bind (trC Tryz.prog Tryz.f151.ntmps) = some (er Jq) := by kernel_rfl
theorem VS : trR Tryz.prog Tryz.f151.results.toList = some Jv := by kernel_rfl
def Tf := Aa Jq.eq_1
theorem Tj {K : TV → Prop} {e : Env} {H : List Ob} : res Jv e H K = res [.tmp 2] e H K := Ac rfl
def WL := (And.intro @Tf @Tj)
def Uc := DD 5 Tryz.func151 V6 VS rfl

def NW : Af := .seq (.ops [mv_ 19 8,
  mv_ 20 0,
  mv_ 21 1,
  mv_ 22 2,
  mv_ 23 9,
  so_ 24 (.call 124 [.c (.string (str [80, 97, 114, 115, 101, 85, 105, 110, 116])), .t 20, .t 21, .t 22, .t 23]),
  mv_ 6 19,
  mv_ 7 24] [6, 7])
 (.ret)
def ND : Af := .seq (.seq (.ops [mv_ 17 9,
  po_ 18 (.eqN 1 (.t 17) (.c .nilIface) true)] [0, 1, 2, 8, 9, 18])
 (.cond (.t 18)
 NW
 (.skip)))
 (.seq (.ops [mv_ 25 8,
  mv_ 6 25,
  po_ 7 (.mov (.c .nilIface))] [6, 7])
 (.ret))
def MQ : Af := .seq (.ops [mv_ 11 0,
  mv_ 12 1,
  mv_ 13 2,
  so_ 14 (.call 123 [.t 11, .t 12, .t 13]),
  mv_ 10 14,
  po_ 15 (.ext 0 (.t 10)),
  po_ 16 (.ext 1 (.t 10)),
  mv_ 8 15,
  mv_ 9 16] [0, 1, 2, 8, 9])
 ND
def SV : Af := .seq (.ops [po_ 6 (.mov (.c (.int .u64 ((0 : Nat) : Int)))),
  po_ 7 (.mov (.c .nilIface))] [0, 1, 2])
 MQ
def Sl : List VR := [.tmp 6, .tmp 7]
theorem Adg : Tryz.f89.body.bind (trC Tryz.prog Tryz.f89.ntmps) = some (er SV) := by kernel_rfl
theorem AcV : trR Tryz.prog Tryz.f89.results.toList = some Sl := by kernel_rfl
def Vx := Aa NW.eq_1
def WM := Aa ND.eq_1
def VX := Aa MQ.eq_1
def Aa2 := Aa SV.eq_1
theorem Aar {K : TV → Prop} {e : Env} {H : List Ob} : res Sl e H K = res [.tmp 6, .tmp 7] e H K := Ac rfl
def Cc := (And.intro (And.intro (And.intro @Vx @WM) (And.intro @VX @Aa2)) @Aar)
def QR := DD 26 Tryz.func89 Adg AcV rfl

def WZ : Af := .seq (.seq (.ops [mv_ 6 0,
  po_ 7 (.bin 3 .gtr (.t 6) (ci_ 0))] [0, 3, 7])
 (.cond (.t 7)
 (.skip)
 (.exit 0)))
 (.block 1 (.seq (.ops [mv_ 8 0,
  po_ 9 (.bin 3 .rem (.t 8) (ci_ 10)),
  po_ 10 (.bin 3 .add (ci_ 48) (.t 9)),
  po_ 11 (.conv .u8 (.t 10)),
  ⟨some 12, .s (.bslice 1 1 (.val (.int .u8 ((0 : Nat) : Int))) [⟨0, .t 11⟩]), none⟩,
  po_ 13 (.b2s (.t 12)),
  mv_ 14 3,
  po_ 15 (.bin 9 .add (.t 13) (.t 14)),
  mv_ 3 15] [0, 3])
 (.ops [mv_ 16 0,
  po_ 17 (.bin 3 .quo (.t 16) (ci_ 10)),
  mv_ 0 17] [0, 3])))
def XC : Af := .seq (.ops [mv_ 18 3,
  mv_ 2 18] [2])
 (.ret)
def W9 : Af := .seq (.block 0 (.loop [0, 3] WZ))
 XC
def Xa : Af := .seq (.ops [po_ 3 (.mov (.c (.string (str []))))] [0, 3])
 W9
def V5 : Af := .seq (.seq (.ops [mv_ 4 0,
  po_ 5 (.bin 3 .eql (.t 4) (ci_ 0))] [0, 5])
 (.cond (.t 5)
 (.seq (.ops [po_ 2 (.mov (.c (.string (str [48]))))] [2])
  (.ret))
 (.skip)))
 Xa
def Ach : Af := .seq (.ops [po_ 2 (.mov (.c (.string (str []))))] [0])
 V5
def AbT : List VR := [.tmp 2]
theorem Ah2 : Tryz.f69.body.bind (trC Tryz.prog Tryz.f69.ntmps) = some (er Ach) := by kernel_rfl
theorem AiB : trR Tryz.prog Tryz.f69.results.toList = some AbT := by kernel_rfl
def AdY := Aa WZ.eq_1
def Adv := Aa XC.eq_1
def Adj := Aa W9.eq_1
def Acu := Aa Xa.eq_1
def Adc := Aa V5.eq_1
def AgN := Aa Ach.eq_1
theorem AgV {K : TV → Prop} {e : Env} {H : List Ob} : res AbT e H K = res [.tmp 2] e H K := Ac rfl
def OX := (And.intro (And.intro (And.intro @AdY @Adv) (And.intro @Adj @Acu)) (And.intro (And.intro @Adc @AgN) @AgV))
def Aho := DD 19 Tryz.func69 Ah2 AiB rfl

end Go.Proofs.YtliaddbbmnfioaaGreatDoor


namespace Go.Proofs.YtliaddbbmnfioaaGreatDoor
open Go.RowKit
variable [Bf]
set_option linter.unusedSectionVars false
set_option linter.unusedVariables false
set_option linter.unusedSimpArgs false

theorem TY : ∀ q : Nat, q < 100 → (bl BC)[q * 2]? = some (UInt8.ofNat (48 + q / 10)) ∧ (bl BC)[q * 2 + 1]? = some (UInt8.ofNat (48 + q % 10)) := by
 have h : ((List.range 100).all fun q => decide ((bl BC)[q * 2]? = some (UInt8.ofNat (48 + q / 10)) ∧ (bl BC)[q * 2 + 1]? = some (UInt8.ofNat (48 + q % 10)))) = true := by kernel_rfl
 intro q hq
 have := List.all_eq_true.1 h q (List.mem_range.2 hq)
 simpa using this
theorem ABc {x : Nat} (h : x < 100000000) : x % 10000 % 100 < 100 ∧ x % 10000 / 100 < 100 ∧ x / 10000 % 100 < 100 ∧ x / 10000 / 100 < 100 := by omega
theorem AwJ (m : Nat) : m + 8 - 1 = m + 7 ∧ m + 8 - 2 = m + 6 ∧ m + 8 - 3 = m + 5 ∧ m + 8 - 4 = m + 4 ∧ m + 8 - 5 = m + 3 ∧ m + 8 - 6 = m + 2 ∧ m + 8 - 7 = m + 1 ∧ m + 8 - 8 = m := by omega
theorem ACB (x : Nat) : dgs 8 x = [UInt8.ofNat (48 + x / 10000 / 100 % 100 / 10), UInt8.ofNat (48 + x / 10000 / 100 % 100 % 10), UInt8.ofNat (48 + x / 10000 % 100 / 10), UInt8.ofNat (48 + x / 10000 % 100 % 10), UInt8.ofNat (48 + x % 10000 / 100 / 10), UInt8.ofNat (48 + x % 10000 / 100 % 10), UInt8.ofNat (48 + x % 10000 % 100 / 10), UInt8.ofNat (48 + x % 10000 % 100 % 10)] := by
 rw [show 8 = 2 + 6 from rfl, ZX 6 2, show 6 = 2 + 4 from rfl, ZX 4 2, show 4 = 2 + 2 from rfl, ZX 2 2, Aaf, Aaf, Aaf, Aaf]
 simp only [Nat.reducePow, List.cons_append, List.nil_append]
 rw [show x / 10000 % 100 = x / 10000 % 100 from rfl, show x / 1000000 = x / 10000 / 100 by omega, show x / 100 % 100 = x % 10000 / 100 by omega, show x % 100 = x % 10000 % 100 by omega]
set_option maxHeartbeats 1000000 in
theorem Ax9 {x m' nd : Nat} (hxl : x < 100000000) (hm : m' + 8 ≤ nd) (hn24 : nd ≤ 24) {P' : List UInt8} (hP' : P'.length = m' + 8) {R : List TV} {id v cp N : Nat} {H : List Ob} (hid : id < H.length) {y : TV} {Q : VEx → Env → List Ob → Prop}
  (hQ : ∀ P4 : List UInt8, P4.length = m' → Q .nor [(0, .os 1 id v [] 0 nd cp), (1, y), (4, i64 (m' : Int))] (H.set id (.obj v (.arr N 1 (P4.map by8 ++ ((dgs 8 x).map by8 ++ R)))))) :
  vwp Tryz.prog CY Q [(0, .os 1 id v [] 0 nd cp), (1, y), (4, i64 ((m' + 8 : Nat) : Int)), (5, .val (.int .u32 (x : Int)))] (H.set id (.obj v (.arr N 1 (P'.map by8 ++ R)))) := by
 have hat : ∀ o, (H.set id o)[id]? = some o := fun o => List.getElem?_set_self hid
 obtain ⟨P4, p0, p1, p2, p3, p4, p5, p6, p7, rfl, l4⟩ : ∃ P4 p0 p1 p2 p3 p4 p5 p6 p7, P' = P4 ++ [p0, p1, p2, p3, p4, p5, p6, p7] ∧ P4.length = m' := by
  have h1 : P' = P'.take m' ++ P'.drop m' := (List.take_append_drop m' P').symm
  have h2 : (P'.drop m').length = 8 := by simp [hP']
  match hD : P'.drop m', h2 with
  | [p0, p1, p2, p3, p4, p5, p6, p7], _ => exact ⟨P'.take m', p0, p1, p2, p3, p4, p5, p6, p7, by rw [← hD]; exact h1, by simp [hP']⟩
 have l5 : (P4.map by8).length = m' := by simp [l4]
 have gA : ∀ (j : Nat) (L : List TV), (P4.map by8 ++ L)[m' + j]? = L[j]? := fun j L => by rw [List.getElem?_append_right (by omega), l5, Nat.add_sub_cancel_left]
 have gA0 : ∀ (L : List TV), (P4.map by8 ++ L)[m']? = L[0]? := fun L => gA 0 L
 have sA : ∀ (j : Nat) (L : List TV) c, (P4.map by8 ++ L).set (m' + j) c = P4.map by8 ++ L.set j c := fun j L c => by rw [List.set_append_right _ _ (by omega), l5, Nat.add_sub_cancel_left]
 have sA0 : ∀ (L : List TV) c, (P4.map by8 ++ L).set m' c = P4.map by8 ++ L.set 0 c := fun L c => sA 0 L c
 rw [List.map_append, List.append_assoc]
 obtain ⟨n1, n2, n3, n4, n5, n6, n7, n8⟩ := AwJ m'
 obtain ⟨q1, q2, q3, q4⟩ := ABc hxl
 obtain ⟨a1, b1⟩ := TY (x % 10000 % 100) q1
 obtain ⟨a2, b2⟩ := TY (x % 10000 / 100) q2
 obtain ⟨a3, b3⟩ := TY (x / 10000 % 100) q3
 obtain ⟨a4, b4⟩ := TY (x / 10000 / 100) q4
 have hQ4 := hQ P4 l4
 rw [ACB, Nat.mod_eq_of_lt q4] at hQ4
 clear hQ
 simp -dsimp (disch := first | assumption | omega | (simp only [Ad]; done) | (simp only [Ad]; omega)) only [↓Ai, Ae, Ag, Ah, eq_self, Nat.reduceEqDiff, ↓reduceIte, reduceCtorEq, ↓I8, AjS, AjT, ↓I5, ↓IM]
 generalize x % 10000 % 100 = z1 at *
 generalize x % 10000 / 100 = z2 at *
 generalize x / 10000 % 100 = z3 at *
 generalize x / 10000 / 100 = z4 at *
 simp -dsimp (disch := first | assumption | omega | (simp only [Ad]; done) | (simp only [Ad]; omega)) only [↓Ai, Ae, Ag, Ah, eq_self, Nat.reduceEqDiff, ↓reduceIte, reduceCtorEq, ↓IV, YF, a1, b1, hat, n1, n2, gA, sA]
 simp -dsimp (disch := first | assumption | omega | (simp only [Ad]; done) | (simp only [Ad]; omega)) only [↓Ai, Ae, Ag, Ah, eq_self, Nat.reduceEqDiff, ↓reduceIte, reduceCtorEq, ↓Jc, YF, a2, b2, hat, n3, n4, gA, sA]
 simp -dsimp (disch := first | assumption | omega | (simp only [Ad]; done) | (simp only [Ad]; omega)) only [↓Ai, Ae, Ag, Ah, eq_self, Nat.reduceEqDiff, ↓reduceIte, reduceCtorEq, ↓IP, YF, a3, b3, hat, n5, n6, gA, sA]
 simp -dsimp (disch := first | assumption | omega | (simp only [Ad]; done) | (simp only [Ad]; omega)) only [↓Ai, Ae, Ag, Ah, eq_self, Nat.reduceEqDiff, ↓reduceIte, reduceCtorEq, ↓IY, YF, a4, b4, hat, n7, n8, gA, gA0, sA, sA0]
 exact hQ4
theorem Bqh (x : Nat) : dgs 4 x = [UInt8.ofNat (48 + x % 10000 / 100 / 10), UInt8.ofNat (48 + x % 10000 / 100 % 10), UInt8.ofNat (48 + x % 10000 % 100 / 10), UInt8.ofNat (48 + x % 10000 % 100 % 10)] := by
 rw [show 4 = 2 + 2 from rfl, ZX 2 2, Aaf, Aaf]
 simp only [Nat.reducePow, List.cons_append, List.nil_append]
 rw [show x / 100 % 100 = x % 10000 / 100 by omega, show x % 100 = x % 10000 % 100 by omega]
theorem ACv {x : Nat} : x % 10000 % 100 < 100 ∧ x % 10000 / 100 < 100 ∧ x % 100 < 100 := by omega
theorem AAj (m : Nat) : m + 4 - 1 = m + 3 ∧ m + 4 - 2 = m + 2 ∧ m + 4 - 3 = m + 1 ∧ m + 4 - 4 = m := by omega
set_option maxHeartbeats 1000000 in
theorem Awb {x m nd : Nat} (hx : x < 10 ^ m) (hm4 : m < 4) (hm : m ≤ nd) (hn24 : nd ≤ 24) {P' : List UInt8} (hP' : P'.length = m) {R : List TV} {id v cp N : Nat} {H : List Ob} (hid : id < H.length) {K : TV → List Ob → Prop}
  (hQ : K (.tup []) (H.set id (.obj v (.arr N 1 ((dgs m x).map by8 ++ R))))) :
  vwp Tryz.prog CU (Ak4 Cf K) [(0, .os 1 id v [] 0 nd cp), (4, i64 (m : Int)), (12, .val (.int .u32 (x : Int)))] (H.set id (.obj v (.arr N 1 (P'.map by8 ++ R)))) := by
 have hat : ∀ o, (H.set id o)[id]? = some o := fun o => List.getElem?_set_self hid
 have hw8 : ∀ n : Nat, n < 10 → TV.val (.int .u8 (IntKind.u8.wrap ((48 + n : Nat) : Int))) = by8 (UInt8.ofNat (48 + n)) := fun n hn => by
  show TV.val (.int .u8 (IntKind.u8.wrap ((48 + n : Nat) : Int))) = .val (.int .u8 ((UInt8.ofNat (48 + n)).toNat : Int))
  rw [AvU]
 match m, P', hP' with
 | 0, [], _ =>
  simp -dsimp (disch := first | assumption | omega | (simp only [Ad]; done) | (simp only [Ad]; omega)) only [↓Ai, Ae, Ag, Ah, eq_self, Nat.reduceLT, Nat.reduceEqDiff, ↓reduceIte, reduceCtorEq, Nat.reduceLeDiff, ↓BF, ↓BD, ↓BZ]
  exact hQ
 | 1, [p0], _ =>
  have hx1 : x < 10 := by simpa using hx
  have hw := hw8 x hx1
  rw [AmC, Nat.mod_eq_of_lt hx1] at hQ
  simp -dsimp (disch := first | assumption | omega | (simp only [Ad]; done) | (simp only [Ad]; omega)) only [↓Ai, Ae, Ag, Ah, eq_self, Nat.reduceLT, Nat.reduceEqDiff, ↓reduceIte, reduceCtorEq, Nat.reduceLeDiff, ↓BF, ↓BD, ↓BZ, YF, hat]
  exact hQ
 | 2, [p0, p1], _ =>
  have hx1 : x < 100 := by simpa using hx
  obtain ⟨a1, b1⟩ := TY x hx1
  rw [Aaf, Nat.mod_eq_of_lt hx1] at hQ
  have hxm : x % 100 = x := Nat.mod_eq_of_lt hx1
  simp -dsimp (disch := first | assumption | omega | (simp only [Ad]; done) | (simp only [Ad]; omega)) only [↓Ai, Ae, Ag, Ah, eq_self, Nat.reduceLT, Nat.reduceEqDiff, Nat.reduceSub, ↓reduceIte, reduceCtorEq, Nat.reduceLeDiff, ↓BF, ↓BD, ↓DJ, AjT, AjS, hxm, ↓DI, ↓DL, ↓BZ, YF, hat, a1, b1]
  exact hQ
 | 3, [p0, p1, p2], _ =>
  have hx1 : x < 1000 := by simpa using hx
  have hx2 : x / 100 < 10 := by omega
  have hx3 : x % 100 < 100 := by omega
  obtain ⟨a1, b1⟩ := TY (x % 100) hx3
  have hw := hw8 (x / 100) hx2
  rw [show 3 = 1 + 2 from rfl, ZX 2 1, Aaf, AmC] at hQ
  rw [show x / 10 ^ 2 % 10 = x / 100 by omega] at hQ
  simp -dsimp (disch := first | assumption | omega | (simp only [Ad]; done) | (simp only [Ad]; omega)) only [↓Ai, Ae, Ag, Ah, eq_self, Nat.reduceEqDiff, ↓reduceIte, reduceCtorEq, Nat.reduceLeDiff, ↓BF, ↓BD, ↓DJ, AjT, AjS, ↓DI]
  generalize x % 100 = z at *
  generalize x / 100 = z2 at *
  simp -dsimp (disch := first | assumption | omega | (simp only [Ad]; done) | (simp only [Ad]; omega)) only [↓Ai, Ae, Ag, Ah, eq_self, Nat.reduceLT, Nat.reduceEqDiff, Nat.reduceSub, ↓reduceIte, reduceCtorEq, ↓DL, ↓BZ, YF, hat, a1, b1]
  exact hQ
set_option maxHeartbeats 1000000 in
theorem AAb {x m nd : Nat} (hx : x < 10 ^ m) (hm8 : m < 8) (hx8 : x < 100000000) (hm : m ≤ nd) (hn24 : nd ≤ 24) {P' : List UInt8} (hP' : P'.length = m) {R : List TV} {id v cp N : Nat} {H : List Ob} (hid : id < H.length) {K : TV → List Ob → Prop}
  (hQ : K (.tup []) (H.set id (.obj v (.arr N 1 ((dgs m x).map by8 ++ R))))) :
  vwp Tryz.prog CV (Ak4 Cf K) [(0, .os 1 id v [] 0 nd cp), (4, i64 (m : Int)), (12, .val (.int .u32 (x : Int)))] (H.set id (.obj v (.arr N 1 (P'.map by8 ++ R)))) := by
 have hat : ∀ o, (H.set id o)[id]? = some o := fun o => List.getElem?_set_self hid
 by_cases c : 4 ≤ m
 ·obtain ⟨m', rfl⟩ : ∃ m', m = m' + 4 := ⟨m - 4, by omega⟩
  obtain ⟨P4, p0, p1, p2, p3, rfl, l4⟩ : ∃ P4 p0 p1 p2 p3, P' = P4 ++ [p0, p1, p2, p3] ∧ P4.length = m' := by
   have h1 : P' = P'.take m' ++ P'.drop m' := (List.take_append_drop m' P').symm
   have h2 : (P'.drop m').length = 4 := by simp [hP']
   match hD : P'.drop m', h2 with
   | [p0, p1, p2, p3], _ => exact ⟨P'.take m', p0, p1, p2, p3, by rw [← hD]; exact h1, by simp [hP']⟩
  have l5 : (P4.map by8).length = m' := by simp [l4]
  have gA : ∀ (j : Nat) (L : List TV), (P4.map by8 ++ L)[m' + j]? = L[j]? := fun j L => by rw [List.getElem?_append_right (by omega), l5, Nat.add_sub_cancel_left]
  have gA0 : ∀ (L : List TV), (P4.map by8 ++ L)[m']? = L[0]? := fun L => gA 0 L
  have sA : ∀ (j : Nat) (L : List TV) c, (P4.map by8 ++ L).set (m' + j) c = P4.map by8 ++ L.set j c := fun j L c => by rw [List.set_append_right _ _ (by omega), l5, Nat.add_sub_cancel_left]
  have sA0 : ∀ (L : List TV) c, (P4.map by8 ++ L).set m' c = P4.map by8 ++ L.set 0 c := fun L c => sA 0 L c
  rw [List.map_append, List.append_assoc]
  have hx4 : x / 10000 < 10 ^ m' := by rw [Nat.pow_add] at hx; omega
  rw [show m' + 4 = m' + 4 from rfl, ZX 4 m', show (10 : Nat) ^ 4 = 10000 from rfl, Bqh, List.map_append, List.append_assoc] at hQ
  clear hx
  obtain ⟨n1, n2, n3, n4⟩ := AAj m'
  obtain ⟨q1, q2, _⟩ := ACv (x := x)
  obtain ⟨a1, b1⟩ := TY (x % 10000 % 100) q1
  obtain ⟨a2, b2⟩ := TY (x % 10000 / 100) q2
  have fin := Awb (R := [by8 (UInt8.ofNat (48 + x % 10000 / 100 / 10)), by8 (UInt8.ofNat (48 + x % 10000 / 100 % 10)), by8 (UInt8.ofNat (48 + x % 10000 % 100 / 10)), by8 (UInt8.ofNat (48 + x % 10000 % 100 % 10))] ++ R) (cp := cp) hx4 (by omega) (nd := nd) (by omega) hn24 l4 hid (K := K) hQ
  clear hQ hx4
  simp -dsimp (disch := first | assumption | omega | (simp only [Ad]; done) | (simp only [Ad]; omega)) only [↓Ai, Ae, Ag, Ah, eq_self, Nat.reduceEqDiff, ↓reduceIte, reduceCtorEq, Nat.reduceLeDiff, ↓DK, ↓DN, ↓Iu, ↓Iz, AjS, AjT, ↓Ip]
  generalize x % 10000 % 100 = z1 at *
  generalize x % 10000 / 100 = z2 at *
  simp -dsimp (disch := first | assumption | omega | (simp only [Ad]; done) | (simp only [Ad]; omega)) only [↓Ai, Ae, Ag, Ah, eq_self, Nat.reduceEqDiff, ↓reduceIte, reduceCtorEq, ↓Iq, YF, a1, b1, hat, n1, n2, gA, sA]
  simp -dsimp (disch := first | assumption | omega | (simp only [Ad]; done) | (simp only [Ad]; omega)) only [↓Ai, Ae, Ag, Ah, eq_self, Nat.reduceEqDiff, ↓reduceIte, reduceCtorEq, ↓Ir, YF, a2, b2, hat, n3, n4, gA, gA0, sA, sA0]
  exact fin
 ·have fin := Awb (R := R) (cp := cp) hx (by omega) hm hn24 hP' hid hQ
  clear hx hx8 hQ
  simp -dsimp (disch := first | assumption | omega | (simp only [Ad]; done) | (simp only [Ad]; omega)) only [↓Ai, Ae, Ag, Ah, eq_self, Nat.reduceEqDiff, ↓reduceIte, reduceCtorEq, ↓DK, ↓DN]
  exact fin
theorem ACg : ∀ {nd : Nat} {u : Nat} (hu : u < 10 ^ nd) (hnd : 1 ≤ nd) (hn24 : nd ≤ 24) (hu2 : u < 18446744073709551616) {P : List UInt8} {Q : List TV} (hP : P.length = nd) {id v cp N : Nat} {H : List Ob} (ho : H[id]? = some (.obj v (.arr N 1 (P.map by8 ++ Q)))) {K : TV → List Ob → Prop}
  (hK : K (.tup []) (H.set id (.obj v (.arr N 1 ((dgs nd u).map by8 ++ Q))))), Aw Tryz.prog 128 [.os 1 id v [] 0 nd cp, .val (.int .u64 (u : Int))] H K := by
 intro nd u hu hnd hn24 hu2 P Q hP id v cp N H ho K hK
 refine MG (by simp) ?_
 have hid : id < H.length := (List.getElem?_eq_some_iff.1 ho).1
 have hsame : ∀ o, H[id]? = some o → H.set id o = H := fun o h => by
  apply List.ext_getElem?
  intro j
  rw [List.getElem?_set]
  split
  ·rename_i e; subst e; simp [h]
  ·rfl
 simp -dsimp (disch := first | assumption | omega | (simp only [Ad]; done) | (simp only [Ad]; omega)) only [↓Ai, Ae, Ag, Ah, eq_self, Nat.reduceEqDiff, ↓reduceIte, Nat.reduceAdd, reduceCtorEq, ↓Lj, ↓Io]
 refine E9 (fun q e H' => ∃ (m u' : Nat) (P' S : List UInt8), q = m ∧ m ≤ nd ∧ u' < 10 ^ m ∧ u' < 18446744073709551616 ∧ P'.length = m ∧ dgs nd u = dgs m u' ++ S ∧ H' = H.set id (.obj v (.arr N 1 (P'.map by8 ++ (S.map by8 ++ Q)))) ∧ e = [(0, .os 1 id v [] 0 nd cp), (1, .val (.int .u64 (u' : Int))), (4, i64 (m : Int))]) nd ?_ ?_
 ·refine ⟨nd, u, P, [], rfl, Nat.le_refl _, hu, hu2, hP, by simp, ?_, by simp [forget, get]⟩
  rw [List.map_nil, List.nil_append]
  exact (hsame _ ho).symm
 ·rintro q e H' ⟨m, u', P', S, rfl, hm, hu', hu2', hP', hS, rfl, rfl⟩
  have hat : ∀ o, (H.set id o)[id]? = some o := fun o => List.getElem?_set_self hid
  by_cases c : 8 ≤ q
  ·obtain ⟨m', rfl⟩ : ∃ m', q = m' + 8 := ⟨q - 8, by omega⟩
   obtain ⟨x, hx⟩ : ∃ x, x = u' % 100000000 := ⟨_, rfl⟩
   have hxl : x < 100000000 := by omega
   have hw : IntKind.u32.wrap (x : Int) = (x : Int) := Ak5 (by omega)
   simp -dsimp (disch := first | assumption | omega | (simp only [Ad]; done) | (simp only [Ad]; omega)) only [↓Ai, Ae, Ag, Ah, eq_self, Nat.reduceEqDiff, ↓reduceIte, reduceCtorEq, Nat.reduceLeDiff, ↓DF, ↓IK, ↓IB, AnK]
   rw [← hx, hw]
   have hu8 : u' / 100000000 < 10 ^ m' := by rw [Nat.pow_add] at hu'; omega
   have hd8 : dgs (m' + 8) u' = dgs m' (u' / 100000000) ++ dgs 8 x := by
    rw [ZX 8 m', ACB, ACB, show (10 : Nat) ^ 8 = 100000000 from rfl]
    congr 1
    rw [show x / 10000 / 100 % 100 = u' / 10000 / 100 % 100 by omega, show x / 10000 % 100 = u' / 10000 % 100 by omega, show x % 10000 = u' % 10000 by omega]
   refine Ax9 (R := S.map by8 ++ Q) hxl hm hn24 hP' hid fun P4 hP4 => ?_
   simp -dsimp (disch := first | assumption | omega | (simp only [Ad]; done) | (simp only [Ad]; omega)) only [↓Ai]
   refine Ce m' (by omega) (by simp) ⟨m', u' / 100000000, P4, dgs 8 x ++ S, rfl, by omega, hu8, by omega, hP4, by rw [hS, hd8, List.append_assoc], by rw [List.map_append, List.append_assoc], by simp [forget, get]⟩
  ·have hu8 : u' < 100000000 := Nat.lt_of_lt_of_le hu' (Nat.le_trans (Nat.pow_le_pow_right (by omega) (show q ≤ 8 by omega)) (by decide))
   have hw : IntKind.u32.wrap (u' : Int) = (u' : Int) := Ak5 (by omega)
   rw [hS, List.map_append, List.append_assoc] at hK
   have fin := AAb (R := S.map by8 ++ Q) (cp := cp) hu' (by omega) hu8 hm hn24 hP' hid hK
   clear hK hu hu'
   simp -dsimp (disch := first | assumption | omega | (simp only [Ad]; done) | (simp only [Ad]; omega)) only [↓Ai, Ae, Ag, Ah, eq_self, Nat.reduceEqDiff, ↓reduceIte, reduceCtorEq, ↓DF, ↓Il, hw]
   exact fin
end Go.Proofs.YtliaddbbmnfioaaGreatDoor


namespace Go.Proofs
open Go.Shelf
def Tryz.lays160_ren : Go.Shelf.Ren := ⟨fun | 160 => 59 | 232 => 94 | 231 => 93 | 227 => 95 | 234 => 97 | 233 => 96 | 236 => 99 | 235 => 98 | 228 => 130 | 271 => 133 | 151 => 132 | 197 => 131 | 120 => 164 | 152 => 157 | 260 => 163 | 137 => 136 | 119 => 175 | 224 => 149 | 225 => 166 | 217 => 165 | 266 => 178 | n => n, fun | 9 => 9 | 4 => 4 | 3 => 3 | 5 => 5 | 117 => 169 | 116 => 168 | 0 => 0 | 124 => 172 | 21 => 21 | 105 => 213 | 46 => 123 | 119 => 247 | 139 => 250 | 138 => 249 | n => n, fun | 3 => 6 | 4 => 7 | n => n⟩
theorem Tryz.lays160 : Go.Proofs.Lays.n160 Tryz.prog Tryz.lays160_ren := {
 mixed := by kernel_rfl
 f119 := Tryz.func175.trans (congrArg some (by kernel_rfl))
 f120 := Tryz.func164.trans (congrArg some (by kernel_rfl))
 f137 := Tryz.func136.trans (congrArg some (by kernel_rfl))
 f151 := Tryz.func132.trans (congrArg some (by kernel_rfl))
 f152 := Tryz.func157.trans (congrArg some (by kernel_rfl))
 f160 := Tryz.func59.trans (congrArg some (by kernel_rfl))
 f197 := Tryz.func131.trans (congrArg some (by kernel_rfl))
 f217 := Tryz.func165.trans (congrArg some (by kernel_rfl))
 f224 := Tryz.func149.trans (congrArg some (by kernel_rfl))
 f225 := Tryz.func166.trans (congrArg some (by kernel_rfl))
 f227 := Tryz.func95.trans (congrArg some (by kernel_rfl))
 f228 := Tryz.func130.trans (congrArg some (by kernel_rfl))
 f231 := Tryz.func93.trans (congrArg some (by kernel_rfl))
 f232 := Tryz.func94.trans (congrArg some (by kernel_rfl))
 f233 := Tryz.func96.trans (congrArg some (by kernel_rfl))
 f234 := Tryz.func97.trans (congrArg some (by kernel_rfl))
 f235 := Tryz.func98.trans (congrArg some (by kernel_rfl))
 f236 := Tryz.func99.trans (congrArg some (by kernel_rfl))
 f260 := Tryz.func163.trans (congrArg some (by kernel_rfl))
 f266 := Tryz.func178.trans (congrArg some (by kernel_rfl))
 f271 := Tryz.func133.trans (congrArg some (by kernel_rfl))
 t0 := Tryz.underlying0
 a0 := Tryz.isAgg0
 z0 := Tryz.sizeOf0
 v0 := Tryz.zeroValue0
 t3 := Tryz.underlying3
 a3 := Tryz.isAgg3
 z3 := Tryz.sizeOf3
 v3 := Tryz.zeroValue3
 t4 := Tryz.underlying4
 a4 := Tryz.isAgg4
 z4 := Tryz.sizeOf4
 v4 := Tryz.zeroValue4
 t5 := Tryz.underlying5
 a5 := Tryz.isAgg5
 z5 := Tryz.sizeOf5
 v5 := Tryz.zeroValue5
 t9 := Tryz.underlying9
 a9 := Tryz.isAgg9
 z9 := Tryz.sizeOf9
 v9 := Tryz.zeroValue9
 t21 := Tryz.underlying21
 a21 := Tryz.isAgg21
 z21 := Tryz.sizeOf21
 v21 := Tryz.zeroValue21
 t46 := Tryz.underlying123
 a46 := Tryz.isAgg123
 z46 := Tryz.sizeOf123
 v46 := Tryz.zeroValue123
 t105 := Tryz.underlying213
 a105 := Tryz.isAgg213
 z105 := Tryz.sizeOf213
 v105 := Tryz.zeroValue213
 t116 := Tryz.underlying168
 a116 := Tryz.isAgg168
 z116 := Tryz.sizeOf168
 t117 := Tryz.underlying169
 a117 := Tryz.isAgg169
 z117 := Tryz.sizeOf169
 v117 := Tryz.zeroValue169
 t119 := Tryz.underlying247
 a119 := Tryz.isAgg247
 z119 := Tryz.sizeOf247
 t124 := Tryz.underlying172
 a124 := Tryz.isAgg172
 z124 := Tryz.sizeOf172
 v124 := Tryz.zeroValue172
 t138 := Tryz.underlying249
 a138 := Tryz.isAgg249
 z138 := Tryz.sizeOf249
 v138 := Tryz.zeroValue249
 t139 := Tryz.underlying250
 a139 := Tryz.isAgg250
 z139 := Tryz.sizeOf250
 v139 := Tryz.zeroValue250
 g3 := by kernel_rfl
 g4 := by kernel_rfl }
open Go.RowKit in
theorem Tryz.strings_Trim_one (s : ByteArray) (c : UInt8) (hc : c.toNat < 128) (w : World) (hs : s.size ≤ 9223372036854775807) :
  Calls Tryz.prog 59 #[.string s, .string ⟨#[c]⟩] w fun e w' => e = .returned (.string ⟨(Lib.trimB s.data.toList c).toArray⟩) ∧ (w' = w ∨ w' = w.drew) := Any.strings_Trim_one Tryz.lays160 s c hc w hs
def Tryz.lays119_ren : Go.Shelf.Ren := ⟨fun | 119 => 175 | n => n, fun | 21 => 21 | 4 => 4 | n => n, fun | n => n⟩
theorem Tryz.lays119 : Go.Proofs.Lays.n119 Tryz.prog Tryz.lays119_ren := {
 mixed := by kernel_rfl
 f119 := Tryz.func175.trans (congrArg some (by kernel_rfl))
 t4 := Tryz.underlying4
 a4 := Tryz.isAgg4
 z4 := Tryz.sizeOf4
 v4 := Tryz.zeroValue4
 t21 := Tryz.underlying21
 a21 := Tryz.isAgg21
 z21 := Tryz.sizeOf21
 v21 := Tryz.zeroValue21 }
theorem Tryz.utf8_ValidRune (r : Int) (w : World) :
  Calls Tryz.prog 175 #[.int .i32 r] w fun e w' => e = .returned (.bool (Lib.validRune r)) ∧ w' = w := Any.utf8_ValidRune Tryz.lays119 r w
def Tryz.lays137_ren : Go.Shelf.Ren := ⟨fun | 137 => 136 | 217 => 165 | 266 => 178 | n => n, fun | 9 => 9 | 5 => 5 | 3 => 3 | n => n, fun | n => n⟩
theorem Tryz.lays137 : Go.Proofs.Lays.n137 Tryz.prog Tryz.lays137_ren := {
 mixed := by kernel_rfl
 f137 := Tryz.func136.trans (congrArg some (by kernel_rfl))
 f217 := Tryz.func165.trans (congrArg some (by kernel_rfl))
 f266 := Tryz.func178.trans (congrArg some (by kernel_rfl))
 t3 := Tryz.underlying3
 a3 := Tryz.isAgg3
 z3 := Tryz.sizeOf3
 v3 := Tryz.zeroValue3
 t5 := Tryz.underlying5
 a5 := Tryz.isAgg5
 z5 := Tryz.sizeOf5
 v5 := Tryz.zeroValue5
 t9 := Tryz.underlying9
 a9 := Tryz.isAgg9
 z9 := Tryz.sizeOf9
 v9 := Tryz.zeroValue9 }
open Go.RowKit in
theorem Tryz.strings_IndexByte (s : ByteArray) (c : Int) (w : World) :
  Calls Tryz.prog 136 #[.string s, .int .u8 c] w fun e w' => e = .returned (.int .i64 (Lib.indexByte s.data.toList c.toNat.toUInt8)) ∧ w' = w := Any.strings_IndexByte Tryz.lays137 s c w
def Tryz.lays103_ren : Go.Shelf.Ren := ⟨fun | 103 => 107 | 210 => 138 | 206 => 169 | n => n, fun | 9 => 9 | 4 => 4 | 24 => 76 | 3 => 3 | n => n, fun | n => n⟩
theorem Tryz.lays103 : Go.Proofs.Lays.n103 Tryz.prog Tryz.lays103_ren := {
 mixed := by kernel_rfl
 f103 := Tryz.func107.trans (congrArg some (by kernel_rfl))
 f206 := Tryz.func169.trans (congrArg some (by kernel_rfl))
 f210 := Tryz.func138.trans (congrArg some (by kernel_rfl))
 t3 := Tryz.underlying3
 a3 := Tryz.isAgg3
 z3 := Tryz.sizeOf3
 v3 := Tryz.zeroValue3
 t4 := Tryz.underlying4
 a4 := Tryz.isAgg4
 z4 := Tryz.sizeOf4
 v4 := Tryz.zeroValue4
 t9 := Tryz.underlying9
 a9 := Tryz.isAgg9
 z9 := Tryz.sizeOf9
 v9 := Tryz.zeroValue9
 t24 := Tryz.underlying76
 a24 := Tryz.isAgg76
 z24 := Tryz.sizeOf76
 v24 := Tryz.zeroValue76 }
open Go.RowKit in
theorem Tryz.strings_CutPrefix (s p : ByteArray) (w : World) :
  Calls Tryz.prog 107 #[.string s, .string p] w fun e w' => e = .returned (.tuple #[.string ⟨(Lib.trimPrefix s.data.toList p.data.toList).toArray⟩, .bool (Lib.hasPrefix s.data.toList p.data.toList)]) ∧ w' = w := Any.strings_CutPrefix Tryz.lays103 s p w
def Tryz.lays283_ren : Go.Shelf.Ren := ⟨fun | 283 => 126 | n => n, fun | 3 => 3 | 9 => 9 | 4 => 4 | n => n, fun | n => n⟩
theorem Tryz.lays283 : Go.Proofs.Lays.n283 Tryz.prog Tryz.lays283_ren := {
 mixed := by kernel_rfl
 f283 := Tryz.func126.trans (congrArg some (by kernel_rfl))
 t3 := Tryz.underlying3
 a3 := Tryz.isAgg3
 z3 := Tryz.sizeOf3
 v3 := Tryz.zeroValue3
 t4 := Tryz.underlying4
 a4 := Tryz.isAgg4
 z4 := Tryz.sizeOf4
 v4 := Tryz.zeroValue4
 t9 := Tryz.underlying9
 a9 := Tryz.isAgg9
 z9 := Tryz.sizeOf9
 v9 := Tryz.zeroValue9 }
open Go.Lib in
theorem Tryz.internal_strconv_small (i : Nat) (h : i < 100) (w : World) :
  Calls Tryz.prog 126 #[.int .i64 i] w fun e w' => e = .returned (.string ⟨(Lib.decDigits i).toArray⟩) ∧ w' = w := Any.internal_strconv_small Tryz.lays283 i h w
def Tryz.laysM284_ren : Go.Shelf.Ren := ⟨fun | 284 => 127 | 129 => 119 | 317 => 159 | 318 => 160 | n => n, fun | 53 => 163 | 3 => 3 | 212 => 235 | 0 => 0 | 4 => 4 | 46 => 123 | 5 => 5 | 9 => 9 | n => n, fun | 17 => 3 | n => n⟩
theorem Tryz.laysM284 : Go.Proofs.LaysM.n284 Tryz.prog Tryz.laysM284_ren := {
 mixed := by kernel_rfl
 f129 := Tryz.func119.trans (congrArg some (by kernel_rfl))
 f284 := Tryz.func127.trans (congrArg some (by kernel_rfl))
 f317 := Tryz.func159.trans (congrArg some (by kernel_rfl))
 f318 := Tryz.func160.trans (congrArg some (by kernel_rfl))
 t0 := Tryz.underlying0
 a0 := Tryz.isAgg0
 z0 := Tryz.sizeOf0
 v0 := Tryz.zeroValue0
 t3 := Tryz.underlying3
 a3 := Tryz.isAgg3
 z3 := Tryz.sizeOf3
 v3 := Tryz.zeroValue3
 t4 := Tryz.underlying4
 a4 := Tryz.isAgg4
 z4 := Tryz.sizeOf4
 v4 := Tryz.zeroValue4
 t5 := Tryz.underlying5
 a5 := Tryz.isAgg5
 z5 := Tryz.sizeOf5
 v5 := Tryz.zeroValue5
 t9 := Tryz.underlying9
 a9 := Tryz.isAgg9
 z9 := Tryz.sizeOf9
 v9 := Tryz.zeroValue9
 t46 := Tryz.underlying123
 a46 := Tryz.isAgg123
 z46 := Tryz.sizeOf123
 v46 := Tryz.zeroValue123
 t53 := Tryz.underlying163
 a53 := Tryz.isAgg163
 z53 := Tryz.sizeOf163
 v53 := Tryz.zeroValue163
 t212 := Tryz.underlying235
 a212 := Tryz.isAgg235
 z212 := Tryz.sizeOf235
 v212 := Tryz.zeroValue235
 g17 := by kernel_rfl
 i0 := by kernel_rfl
 i3 := by kernel_rfl
 i4 := by kernel_rfl
 i5 := by kernel_rfl
 i9 := by kernel_rfl
 i46 := by kernel_rfl
 i53 := by kernel_rfl
 i212 := by kernel_rfl
 m17 := by kernel_rfl }
open Go.Lib in
theorem Tryz.internal_strconv_numDigits (u : Nat) (h1 : 1 ≤ u) (h2 : u < 18446744073709551616) (w : World) (htab : Lib.TabIs Tryz.prog w "internal/strconv.uint64pow10" .u64 Lib.pow10Tab) :
  Calls Tryz.prog 127 #[.int .u64 u] w fun e w' => e = .returned (.int .i64 (Lib.nDigits u)) ∧ w' = w := Any.internal_strconv_numDigits Tryz.laysM284 u h1 h2 w htab
def Tryz.laysM171_ren : Go.Shelf.Ren := ⟨fun | 171 => 57 | 243 => 91 | 246 => 92 | 283 => 126 | 284 => 127 | 285 => 128 | 286 => 129 | 129 => 119 | 317 => 159 | 318 => 160 | 319 => 161 | 320 => 162 | 337 => 176 | 338 => 177 | n => n, fun | 3 => 3 | 9 => 9 | 2 => 2 | 4 => 4 | 171 => 208 | 0 => 0 | 53 => 163 | 37 => 29 | 5 => 5 | 173 => 210 | 212 => 235 | 51 => 203 | 20 => 20 | 213 => 236 | 46 => 123 | 232 => 255 | 233 => 256 | n => n, fun | 17 => 3 | 18 => 8 | 19 => 9 | n => n⟩
theorem Tryz.laysM171 : Go.Proofs.LaysM.n171 Tryz.prog Tryz.laysM171_ren := {
 mixed := by kernel_rfl
 f129 := Tryz.func119.trans (congrArg some (by kernel_rfl))
 f171 := Tryz.func57.trans (congrArg some (by kernel_rfl))
 f243 := Tryz.func91.trans (congrArg some (by kernel_rfl))
 f246 := Tryz.func92.trans (congrArg some (by kernel_rfl))
 f283 := Tryz.func126.trans (congrArg some (by kernel_rfl))
 f284 := Tryz.func127.trans (congrArg some (by kernel_rfl))
 f285 := Tryz.func128.trans (congrArg some (by kernel_rfl))
 f286 := Tryz.func129.trans (congrArg some (by kernel_rfl))
 f317 := Tryz.func159.trans (congrArg some (by kernel_rfl))
 f318 := Tryz.func160.trans (congrArg some (by kernel_rfl))
 f319 := Tryz.func161.trans (congrArg some (by kernel_rfl))
 f320 := Tryz.func162.trans (congrArg some (by kernel_rfl))
 f337 := Tryz.func176.trans (congrArg some (by kernel_rfl))
 f338 := Tryz.func177.trans (congrArg some (by kernel_rfl))
 t0 := Tryz.underlying0
 a0 := Tryz.isAgg0
 z0 := Tryz.sizeOf0
 v0 := Tryz.zeroValue0
 t2 := Tryz.underlying2
 a2 := Tryz.isAgg2
 z2 := Tryz.sizeOf2
 v2 := Tryz.zeroValue2
 t3 := Tryz.underlying3
 a3 := Tryz.isAgg3
 z3 := Tryz.sizeOf3
 v3 := Tryz.zeroValue3
 t4 := Tryz.underlying4
 a4 := Tryz.isAgg4
 z4 := Tryz.sizeOf4
 v4 := Tryz.zeroValue4
 t5 := Tryz.underlying5
 a5 := Tryz.isAgg5
 z5 := Tryz.sizeOf5
 v5 := Tryz.zeroValue5
 t9 := Tryz.underlying9
 a9 := Tryz.isAgg9
 z9 := Tryz.sizeOf9
 v9 := Tryz.zeroValue9
 t20 := Tryz.underlying20
 a20 := Tryz.isAgg20
 z20 := Tryz.sizeOf20
 v20 := Tryz.zeroValue20
 t37 := Tryz.underlying29
 a37 := Tryz.isAgg29
 z37 := Tryz.sizeOf29
 v37 := Tryz.zeroValue29
 t46 := Tryz.underlying123
 a46 := Tryz.isAgg123
 z46 := Tryz.sizeOf123
 v46 := Tryz.zeroValue123
 t51 := Tryz.underlying203
 a51 := Tryz.isAgg203
 z51 := Tryz.sizeOf203
 v51 := Tryz.zeroValue203
 t53 := Tryz.underlying163
 a53 := Tryz.isAgg163
 z53 := Tryz.sizeOf163
 v53 := Tryz.zeroValue163
 t171 := Tryz.underlying208
 a171 := Tryz.isAgg208
 z171 := Tryz.sizeOf208
 v171 := Tryz.zeroValue208
 t173 := Tryz.underlying210
 a173 := Tryz.isAgg210
 z173 := Tryz.sizeOf210
 v173 := Tryz.zeroValue210
 t212 := Tryz.underlying235
 a212 := Tryz.isAgg235
 z212 := Tryz.sizeOf235
 v212 := Tryz.zeroValue235
 t213 := Tryz.underlying236
 a213 := Tryz.isAgg236
 z213 := Tryz.sizeOf236
 t232 := Tryz.underlying255
 a232 := Tryz.isAgg255
 z232 := Tryz.sizeOf255
 v232 := Tryz.zeroValue255
 t233 := Tryz.underlying256
 a233 := Tryz.isAgg256
 z233 := Tryz.sizeOf256
 v233 := Tryz.zeroValue256
 g17 := by kernel_rfl
 g18 := by kernel_rfl
 g19 := by kernel_rfl
 i0 := by kernel_rfl
 i2 := by kernel_rfl
 i3 := by kernel_rfl
 i4 := by kernel_rfl
 i5 := by kernel_rfl
 i9 := by kernel_rfl
 i20 := by kernel_rfl
 i37 := by kernel_rfl
 i46 := by kernel_rfl
 i51 := by kernel_rfl
 i53 := by kernel_rfl
 i171 := by kernel_rfl
 i173 := by kernel_rfl
 i212 := by kernel_rfl
 i232 := by kernel_rfl
 i233 := by kernel_rfl
 m17 := by kernel_rfl
 m18 := by kernel_rfl
 m19 := by kernel_rfl }
open Go.RowKit Go.Sort Go.Lib in
theorem Tryz.strconv_Itoa (n : Int) (h0 : -9223372036854775808 ≤ n) (h1 : n ≤ 9223372036854775807) (w : World) (htab : Lib.TabIs Tryz.prog w "internal/strconv.uint64pow10" .u64 Lib.pow10Tab) :
  Calls Tryz.prog 57 #[.int .i64 n] w fun e w' => e = .returned (.string ⟨(Lib.itoa n).toArray⟩) ∧ ∃ k os, w' = grow (w.drewN k) os := Any.strconv_Itoa Tryz.laysM171 n h0 h1 w htab
def Tryz.laysM173_ren : Go.Shelf.Ren := ⟨fun | 173 => 58 | 246 => 92 | 283 => 126 | 284 => 127 | 285 => 128 | 286 => 129 | 129 => 119 | 317 => 159 | 318 => 160 | 319 => 161 | 320 => 162 | 337 => 176 | 338 => 177 | n => n, fun | 2 => 2 | 3 => 3 | 9 => 9 | 4 => 4 | 171 => 208 | 0 => 0 | 53 => 163 | 37 => 29 | 5 => 5 | 173 => 210 | 212 => 235 | 51 => 203 | 20 => 20 | 213 => 236 | 46 => 123 | 232 => 255 | 233 => 256 | n => n, fun | 17 => 3 | 18 => 8 | 19 => 9 | n => n⟩
theorem Tryz.laysM173 : Go.Proofs.LaysM.n173 Tryz.prog Tryz.laysM173_ren := {
 mixed := by kernel_rfl
 f129 := Tryz.func119.trans (congrArg some (by kernel_rfl))
 f173 := Tryz.func58.trans (congrArg some (by kernel_rfl))
 f246 := Tryz.func92.trans (congrArg some (by kernel_rfl))
 f283 := Tryz.func126.trans (congrArg some (by kernel_rfl))
 f284 := Tryz.func127.trans (congrArg some (by kernel_rfl))
 f285 := Tryz.func128.trans (congrArg some (by kernel_rfl))
 f286 := Tryz.func129.trans (congrArg some (by kernel_rfl))
 f317 := Tryz.func159.trans (congrArg some (by kernel_rfl))
 f318 := Tryz.func160.trans (congrArg some (by kernel_rfl))
 f319 := Tryz.func161.trans (congrArg some (by kernel_rfl))
 f320 := Tryz.func162.trans (congrArg some (by kernel_rfl))
 f337 := Tryz.func176.trans (congrArg some (by kernel_rfl))
 f338 := Tryz.func177.trans (congrArg some (by kernel_rfl))
 t0 := Tryz.underlying0
 a0 := Tryz.isAgg0
 z0 := Tryz.sizeOf0
 v0 := Tryz.zeroValue0
 t2 := Tryz.underlying2
 a2 := Tryz.isAgg2
 z2 := Tryz.sizeOf2
 v2 := Tryz.zeroValue2
 t3 := Tryz.underlying3
 a3 := Tryz.isAgg3
 z3 := Tryz.sizeOf3
 v3 := Tryz.zeroValue3
 t4 := Tryz.underlying4
 a4 := Tryz.isAgg4
 z4 := Tryz.sizeOf4
 v4 := Tryz.zeroValue4
 t5 := Tryz.underlying5
 a5 := Tryz.isAgg5
 z5 := Tryz.sizeOf5
 v5 := Tryz.zeroValue5
 t9 := Tryz.underlying9
 a9 := Tryz.isAgg9
 z9 := Tryz.sizeOf9
 v9 := Tryz.zeroValue9
 t20 := Tryz.underlying20
 a20 := Tryz.isAgg20
 z20 := Tryz.sizeOf20
 v20 := Tryz.zeroValue20
 t37 := Tryz.underlying29
 a37 := Tryz.isAgg29
 z37 := Tryz.sizeOf29
 v37 := Tryz.zeroValue29
 t46 := Tryz.underlying123
 a46 := Tryz.isAgg123
 z46 := Tryz.sizeOf123
 v46 := Tryz.zeroValue123
 t51 := Tryz.underlying203
 a51 := Tryz.isAgg203
 z51 := Tryz.sizeOf203
 v51 := Tryz.zeroValue203
 t53 := Tryz.underlying163
 a53 := Tryz.isAgg163
 z53 := Tryz.sizeOf163
 v53 := Tryz.zeroValue163
 t171 := Tryz.underlying208
 a171 := Tryz.isAgg208
 z171 := Tryz.sizeOf208
 v171 := Tryz.zeroValue208
 t173 := Tryz.underlying210
 a173 := Tryz.isAgg210
 z173 := Tryz.sizeOf210
 v173 := Tryz.zeroValue210
 t212 := Tryz.underlying235
 a212 := Tryz.isAgg235
 z212 := Tryz.sizeOf235
 v212 := Tryz.zeroValue235
 t213 := Tryz.underlying236
 a213 := Tryz.isAgg236
 z213 := Tryz.sizeOf236
 t232 := Tryz.underlying255
 a232 := Tryz.isAgg255
 z232 := Tryz.sizeOf255
 v232 := Tryz.zeroValue255
 t233 := Tryz.underlying256
 a233 := Tryz.isAgg256
 z233 := Tryz.sizeOf256
 v233 := Tryz.zeroValue256
 g17 := by kernel_rfl
 g18 := by kernel_rfl
 g19 := by kernel_rfl
 i0 := by kernel_rfl
 i2 := by kernel_rfl
 i3 := by kernel_rfl
 i4 := by kernel_rfl
 i5 := by kernel_rfl
 i9 := by kernel_rfl
 i20 := by kernel_rfl
 i37 := by kernel_rfl
 i46 := by kernel_rfl
 i51 := by kernel_rfl
 i53 := by kernel_rfl
 i171 := by kernel_rfl
 i173 := by kernel_rfl
 i212 := by kernel_rfl
 i232 := by kernel_rfl
 i233 := by kernel_rfl
 m17 := by kernel_rfl
 m18 := by kernel_rfl
 m19 := by kernel_rfl }
open Go.RowKit Go.Sort Go.Lib in
theorem Tryz.strconv_FormatInt_10 (n : Int) (h0 : -9223372036854775808 ≤ n) (h1 : n ≤ 9223372036854775807) (w : World) (htab : Lib.TabIs Tryz.prog w "internal/strconv.uint64pow10" .u64 Lib.pow10Tab) :
  Calls Tryz.prog 58 #[.int .i64 n, .int .i64 10] w fun e w' => e = .returned (.string ⟨(Lib.itoa n).toArray⟩) ∧ ∃ k os, w' = grow (w.drewN k) os := Any.strconv_FormatInt_10 Tryz.laysM173 n h0 h1 w htab
def Tryz.laysC245_ren : Go.Shelf.Ren := ⟨fun | 245 => 124 | 279 => 153 | 280 => 154 | 281 => 155 | 282 => 156 | 316 => 173 | 171 => 57 | 205 => 174 | 243 => 91 | 246 => 92 | 283 => 126 | 284 => 127 | 285 => 128 | 286 => 129 | 129 => 119 | 317 => 159 | 318 => 160 | 319 => 161 | 320 => 162 | 337 => 176 | 338 => 177 | n => n, fun | 9 => 9 | 3 => 3 | 75 => 31 | 167 => 228 | 4 => 4 | 168 => 229 | 210 => 244 | 37 => 29 | 0 => 0 | 127 => 173 | 145 => 254 | 143 => 252 | 2 => 2 | 171 => 208 | 53 => 163 | 5 => 5 | 173 => 210 | 212 => 235 | 51 => 203 | 20 => 20 | 213 => 236 | 46 => 123 | 232 => 255 | 233 => 256 | 80 => 121 | n => n, fun | 15 => 4 | 16 => 5 | 17 => 3 | 18 => 8 | 19 => 9 | n => n⟩
theorem Tryz.laysC245 : Go.Proofs.LaysC.n245 Tryz.prog Tryz.laysC245_ren := {
 mixed := by kernel_rfl
 f129 := Tryz.func119.trans (congrArg some (by kernel_rfl))
 f171 := Tryz.func57.trans (congrArg some (by kernel_rfl))
 f205 := Tryz.func174.trans (congrArg some (by kernel_rfl))
 f243 := Tryz.func91.trans (congrArg some (by kernel_rfl))
 f245 := Tryz.func124.trans (congrArg some (by kernel_rfl))
 f246 := Tryz.func92.trans (congrArg some (by kernel_rfl))
 f279 := Tryz.func153.trans (congrArg some (by kernel_rfl))
 f280 := Tryz.func154.trans (congrArg some (by kernel_rfl))
 f281 := Tryz.func155.trans (congrArg some (by kernel_rfl))
 f282 := Tryz.func156.trans (congrArg some (by kernel_rfl))
 f283 := Tryz.func126.trans (congrArg some (by kernel_rfl))
 f284 := Tryz.func127.trans (congrArg some (by kernel_rfl))
 f285 := Tryz.func128.trans (congrArg some (by kernel_rfl))
 f286 := Tryz.func129.trans (congrArg some (by kernel_rfl))
 f316 := Tryz.func173.trans (congrArg some (by kernel_rfl))
 f317 := Tryz.func159.trans (congrArg some (by kernel_rfl))
 f318 := Tryz.func160.trans (congrArg some (by kernel_rfl))
 f319 := Tryz.func161.trans (congrArg some (by kernel_rfl))
 f320 := Tryz.func162.trans (congrArg some (by kernel_rfl))
 f337 := Tryz.func176.trans (congrArg some (by kernel_rfl))
 f338 := Tryz.func177.trans (congrArg some (by kernel_rfl))
 t0 := Tryz.underlying0
 a0 := Tryz.isAgg0
 z0 := Tryz.sizeOf0
 v0 := Tryz.zeroValue0
 t2 := Tryz.underlying2
 a2 := Tryz.isAgg2
 z2 := Tryz.sizeOf2
 v2 := Tryz.zeroValue2
 t3 := Tryz.underlying3
 a3 := Tryz.isAgg3
 z3 := Tryz.sizeOf3
 v3 := Tryz.zeroValue3
 t4 := Tryz.underlying4
 a4 := Tryz.isAgg4
 z4 := Tryz.sizeOf4
 v4 := Tryz.zeroValue4
 t5 := Tryz.underlying5
 a5 := Tryz.isAgg5
 z5 := Tryz.sizeOf5
 v5 := Tryz.zeroValue5
 t9 := Tryz.underlying9
 a9 := Tryz.isAgg9
 z9 := Tryz.sizeOf9
 v9 := Tryz.zeroValue9
 t20 := Tryz.underlying20
 a20 := Tryz.isAgg20
 z20 := Tryz.sizeOf20
 v20 := Tryz.zeroValue20
 t37 := Tryz.underlying29
 a37 := Tryz.isAgg29
 z37 := Tryz.sizeOf29
 v37 := Tryz.zeroValue29
 t46 := Tryz.underlying123
 a46 := Tryz.isAgg123
 z46 := Tryz.sizeOf123
 v46 := Tryz.zeroValue123
 t51 := Tryz.underlying203
 a51 := Tryz.isAgg203
 z51 := Tryz.sizeOf203
 v51 := Tryz.zeroValue203
 t53 := Tryz.underlying163
 a53 := Tryz.isAgg163
 z53 := Tryz.sizeOf163
 v53 := Tryz.zeroValue163
 t75 := Tryz.underlying31
 a75 := Tryz.isAgg31
 z75 := Tryz.sizeOf31
 v75 := Tryz.zeroValue31
 t127 := Tryz.underlying173
 a127 := Tryz.isAgg173
 z127 := Tryz.sizeOf173
 v127 := Tryz.zeroValue173
 t143 := Tryz.underlying252
 a143 := Tryz.isAgg252
 z143 := Tryz.sizeOf252
 v143 := Tryz.zeroValue252
 t145 := Tryz.underlying254
 a145 := Tryz.isAgg254
 z145 := Tryz.sizeOf254
 v145 := Tryz.zeroValue254
 t167 := Tryz.underlying228
 a167 := Tryz.isAgg228
 z167 := Tryz.sizeOf228
 v167 := Tryz.zeroValue228
 t168 := Tryz.underlying229
 a168 := Tryz.isAgg229
 z168 := Tryz.sizeOf229
 v168 := Tryz.zeroValue229
 t171 := Tryz.underlying208
 a171 := Tryz.isAgg208
 z171 := Tryz.sizeOf208
 v171 := Tryz.zeroValue208
 t173 := Tryz.underlying210
 a173 := Tryz.isAgg210
 z173 := Tryz.sizeOf210
 v173 := Tryz.zeroValue210
 t210 := Tryz.underlying244
 a210 := Tryz.isAgg244
 z210 := Tryz.sizeOf244
 v210 := Tryz.zeroValue244
 t212 := Tryz.underlying235
 a212 := Tryz.isAgg235
 z212 := Tryz.sizeOf235
 v212 := Tryz.zeroValue235
 t213 := Tryz.underlying236
 a213 := Tryz.isAgg236
 z213 := Tryz.sizeOf236
 t232 := Tryz.underlying255
 a232 := Tryz.isAgg255
 z232 := Tryz.sizeOf255
 v232 := Tryz.zeroValue255
 t233 := Tryz.underlying256
 a233 := Tryz.isAgg256
 z233 := Tryz.sizeOf256
 v233 := Tryz.zeroValue256
 g15 := by kernel_rfl
 g16 := by kernel_rfl
 g17 := by kernel_rfl
 g18 := by kernel_rfl
 g19 := by kernel_rfl
 t80 := Tryz.underlying121
 a80 := Tryz.isAgg121
 z80 := Tryz.sizeOf121
 v80 := Tryz.zeroValue121
 i0 := by kernel_rfl
 i2 := by kernel_rfl
 i3 := by kernel_rfl
 i4 := by kernel_rfl
 i5 := by kernel_rfl
 i9 := by kernel_rfl
 i20 := by kernel_rfl
 i37 := by kernel_rfl
 i46 := by kernel_rfl
 i51 := by kernel_rfl
 i53 := by kernel_rfl
 i75 := by kernel_rfl
 i80 := by kernel_rfl
 i127 := by kernel_rfl
 i143 := by kernel_rfl
 i145 := by kernel_rfl
 i167 := by kernel_rfl
 i168 := by kernel_rfl
 i171 := by kernel_rfl
 i173 := by kernel_rfl
 i210 := by kernel_rfl
 i212 := by kernel_rfl
 i232 := by kernel_rfl
 i233 := by kernel_rfl
 m15 := by kernel_rfl
 m16 := by kernel_rfl
 m17 := by kernel_rfl
 m18 := by kernel_rfl
 m19 := by kernel_rfl
 c0 := by kernel_rfl
 c2 := by kernel_rfl
 c3 := by kernel_rfl
 c4 := by kernel_rfl
 c5 := by kernel_rfl
 c9 := by kernel_rfl
 c20 := by kernel_rfl
 c37 := by kernel_rfl
 c46 := by kernel_rfl
 c51 := by kernel_rfl
 c53 := by kernel_rfl
 c75 := by kernel_rfl
 c80 := by kernel_rfl
 c127 := by kernel_rfl
 c143 := by kernel_rfl
 c145 := by kernel_rfl
 c167 := by kernel_rfl
 c168 := by kernel_rfl
 c171 := by kernel_rfl
 c173 := by kernel_rfl
 c210 := by kernel_rfl
 c212 := by kernel_rfl
 c213 := by kernel_rfl
 c232 := by kernel_rfl
 c233 := by kernel_rfl }
open Go.RowKit in
theorem Tryz.strconv_toError_syntax (fn s : ByteArray) (base bits : Int) (ev : Value) (w : World) (hlim : s.size ≤ 281474976710656) (hv : w.cell? ⟨4, 0, none⟩ = some ev) (hev : ev = .nilIface ∨ ∃ te pe, ev = .iface te pe) :
  Calls Tryz.prog 124 #[.string fn, .string s, .int .i64 base, .int .i64 bits, .iface 228 (.int .i64 2)] w fun e w' => ∃ N, e = .returned (.iface 229 (.pointer (some ⟨N, 0, none⟩))) ∧ w.heap.size ≤ N ∧ w'.heap[N]? = some (.cells #[.string fn, .string s, ev] 244 (0, 0)) ∧ Below w.heap.size w w' := Any.strconv_toError_syntax Tryz.laysC245 fn s base bits ev w hlim hv hev
open Go.RowKit in
theorem Tryz.strconv_toError_range (fn s : ByteArray) (base bits : Int) (ev : Value) (w : World) (hlim : s.size ≤ 281474976710656) (hv : w.cell? ⟨5, 0, none⟩ = some ev) (hev : ev = .nilIface ∨ ∃ te pe, ev = .iface te pe) :
  Calls Tryz.prog 124 #[.string fn, .string s, .int .i64 base, .int .i64 bits, .iface 228 (.int .i64 1)] w fun e w' => ∃ N, e = .returned (.iface 229 (.pointer (some ⟨N, 0, none⟩))) ∧ w.heap.size ≤ N ∧ w'.heap[N]? = some (.cells #[.string fn, .string s, ev] 244 (0, 0)) ∧ Below w.heap.size w w' := Any.strconv_toError_range Tryz.laysC245 fn s base bits ev w hlim hv hev
def Tryz.lays144_ren : Go.Shelf.Ren := ⟨fun | 144 => 60 | 143 => 100 | 219 => 134 | 217 => 165 | 225 => 166 | 224 => 149 | 267 => 167 | 266 => 178 | 314 => 179 | n => n, fun | 9 => 9 | 4 => 4 | 3 => 3 | 5 => 5 | 46 => 123 | 146 => 241 | 51 => 203 | n => n, fun | 1 => 2 | n => n⟩
theorem Tryz.lays144 : Go.Proofs.Lays.n144 Tryz.prog Tryz.lays144_ren := {
 mixed := by kernel_rfl
 f143 := Tryz.func100.trans (congrArg some (by kernel_rfl))
 f144 := Tryz.func60.trans (congrArg some (by kernel_rfl))
 f217 := Tryz.func165.trans (congrArg some (by kernel_rfl))
 f219 := Tryz.func134.trans (congrArg some (by kernel_rfl))
 f224 := Tryz.func149.trans (congrArg some (by kernel_rfl))
 f225 := Tryz.func166.trans (congrArg some (by kernel_rfl))
 f266 := Tryz.func178.trans (congrArg some (by kernel_rfl))
 f267 := Tryz.func167.trans (congrArg some (by kernel_rfl))
 f314 := Tryz.func179.trans (congrArg some (by kernel_rfl))
 t3 := Tryz.underlying3
 a3 := Tryz.isAgg3
 z3 := Tryz.sizeOf3
 v3 := Tryz.zeroValue3
 t4 := Tryz.underlying4
 a4 := Tryz.isAgg4
 z4 := Tryz.sizeOf4
 v4 := Tryz.zeroValue4
 t5 := Tryz.underlying5
 a5 := Tryz.isAgg5
 z5 := Tryz.sizeOf5
 v5 := Tryz.zeroValue5
 t9 := Tryz.underlying9
 a9 := Tryz.isAgg9
 z9 := Tryz.sizeOf9
 v9 := Tryz.zeroValue9
 t46 := Tryz.underlying123
 a46 := Tryz.isAgg123
 z46 := Tryz.sizeOf123
 v46 := Tryz.zeroValue123
 t51 := Tryz.underlying203
 a51 := Tryz.isAgg203
 z51 := Tryz.sizeOf203
 v51 := Tryz.zeroValue203
 t146 := Tryz.underlying241
 a146 := Tryz.isAgg241
 z146 := Tryz.sizeOf241
 v146 := Tryz.zeroValue241
 g1 := by kernel_rfl }
open Go.RowKit Go.Lib in
theorem Tryz.strings_Contains_one (s : ByteArray) (c : UInt8) (w : World) :
  Calls Tryz.prog 60 #[.string s, .string ⟨#[c]⟩] w fun e w' => e = .returned (.bool (decide (0 ≤ Lib.indexByte s.data.toList c))) ∧ w' = w := Any.strings_Contains_one Tryz.lays144 s c w
def Tryz.lays145_ren : Go.Shelf.Ren := ⟨fun | 145 => 109 | 220 => 139 | 219 => 134 | 217 => 165 | 225 => 166 | 224 => 149 | 267 => 167 | 266 => 178 | 314 => 179 | n => n, fun | 9 => 9 | 4 => 4 | 59 => 146 | 3 => 3 | 5 => 5 | 46 => 123 | 146 => 241 | 51 => 203 | n => n, fun | 1 => 2 | n => n⟩
theorem Tryz.lays145 : Go.Proofs.Lays.n145 Tryz.prog Tryz.lays145_ren := {
 mixed := by kernel_rfl
 f145 := Tryz.func109.trans (congrArg some (by kernel_rfl))
 f217 := Tryz.func165.trans (congrArg some (by kernel_rfl))
 f219 := Tryz.func134.trans (congrArg some (by kernel_rfl))
 f220 := Tryz.func139.trans (congrArg some (by kernel_rfl))
 f224 := Tryz.func149.trans (congrArg some (by kernel_rfl))
 f225 := Tryz.func166.trans (congrArg some (by kernel_rfl))
 f266 := Tryz.func178.trans (congrArg some (by kernel_rfl))
 f267 := Tryz.func167.trans (congrArg some (by kernel_rfl))
 f314 := Tryz.func179.trans (congrArg some (by kernel_rfl))
 t3 := Tryz.underlying3
 a3 := Tryz.isAgg3
 z3 := Tryz.sizeOf3
 v3 := Tryz.zeroValue3
 t4 := Tryz.underlying4
 a4 := Tryz.isAgg4
 z4 := Tryz.sizeOf4
 v4 := Tryz.zeroValue4
 t5 := Tryz.underlying5
 a5 := Tryz.isAgg5
 z5 := Tryz.sizeOf5
 v5 := Tryz.zeroValue5
 t9 := Tryz.underlying9
 a9 := Tryz.isAgg9
 z9 := Tryz.sizeOf9
 v9 := Tryz.zeroValue9
 t46 := Tryz.underlying123
 a46 := Tryz.isAgg123
 z46 := Tryz.sizeOf123
 v46 := Tryz.zeroValue123
 t51 := Tryz.underlying203
 a51 := Tryz.isAgg203
 z51 := Tryz.sizeOf203
 v51 := Tryz.zeroValue203
 t59 := Tryz.underlying146
 a59 := Tryz.isAgg146
 z59 := Tryz.sizeOf146
 v59 := Tryz.zeroValue146
 t146 := Tryz.underlying241
 a146 := Tryz.isAgg241
 z146 := Tryz.sizeOf241
 v146 := Tryz.zeroValue241
 g1 := by kernel_rfl }
open Go.RowKit Go.Lib in
theorem Tryz.strings_Cut (s sep : ByteArray) (m : Int) (w : World) (hs : s.size < 4294967281) (hm : w.cell? ⟨2, 0, none⟩ = some (.int .i64 m)) :
  Calls Tryz.prog 109 #[.string s, .string sep] w fun e w' => e = .returned (.tuple #[.string ⟨(Lib.cut s.data.toList sep.data.toList).1.toArray⟩, .string ⟨(Lib.cut s.data.toList sep.data.toList).2.1.toArray⟩, .bool (Lib.cut s.data.toList sep.data.toList).2.2]) ∧ ∃ n, w' = w.drewN n := Any.strings_Cut Tryz.lays145 s sep m w hs hm
def Tryz.lays152_ren : Go.Shelf.Ren := ⟨fun | 152 => 157 | 137 => 136 | 119 => 175 | 224 => 149 | 225 => 166 | 217 => 165 | 266 => 178 | n => n, fun | 9 => 9 | 21 => 21 | 3 => 3 | 4 => 4 | 5 => 5 | 0 => 0 | 46 => 123 | n => n, fun | n => n⟩
theorem Tryz.lays152 : Go.Proofs.Lays.n152 Tryz.prog Tryz.lays152_ren := {
 mixed := by kernel_rfl
 f119 := Tryz.func175.trans (congrArg some (by kernel_rfl))
 f137 := Tryz.func136.trans (congrArg some (by kernel_rfl))
 f152 := Tryz.func157.trans (congrArg some (by kernel_rfl))
 f217 := Tryz.func165.trans (congrArg some (by kernel_rfl))
 f224 := Tryz.func149.trans (congrArg some (by kernel_rfl))
 f225 := Tryz.func166.trans (congrArg some (by kernel_rfl))
 f266 := Tryz.func178.trans (congrArg some (by kernel_rfl))
 t0 := Tryz.underlying0
 a0 := Tryz.isAgg0
 z0 := Tryz.sizeOf0
 v0 := Tryz.zeroValue0
 t3 := Tryz.underlying3
 a3 := Tryz.isAgg3
 z3 := Tryz.sizeOf3
 v3 := Tryz.zeroValue3
 t4 := Tryz.underlying4
 a4 := Tryz.isAgg4
 z4 := Tryz.sizeOf4
 v4 := Tryz.zeroValue4
 t5 := Tryz.underlying5
 a5 := Tryz.isAgg5
 z5 := Tryz.sizeOf5
 v5 := Tryz.zeroValue5
 t9 := Tryz.underlying9
 a9 := Tryz.isAgg9
 z9 := Tryz.sizeOf9
 v9 := Tryz.zeroValue9
 t21 := Tryz.underlying21
 a21 := Tryz.isAgg21
 z21 := Tryz.sizeOf21
 v21 := Tryz.zeroValue21
 t46 := Tryz.underlying123
 a46 := Tryz.isAgg123
 z46 := Tryz.sizeOf123
 v46 := Tryz.zeroValue123 }
open Go.RowKit Go.Lib in
theorem Tryz.strings_IndexRune_ascii (s : ByteArray) (r : Int) (w : World) (h0 : 0 ≤ r) (h1 : r < 128) :
  Calls Tryz.prog 157 #[.string s, .int .i32 r] w fun e w' => e = .returned (.int .i64 (Lib.indexByte s.data.toList r.toNat.toUInt8)) ∧ w' = w := Any.strings_IndexRune_ascii Tryz.lays152 s r w h0 h1
def Tryz.lays153_ren : Go.Shelf.Ren := ⟨fun | 153 => 125 | 152 => 157 | 226 => 158 | 227 => 95 | 228 => 130 | 137 => 136 | 119 => 175 | 224 => 149 | 225 => 166 | 217 => 165 | 266 => 178 | n => n, fun | 9 => 9 | 3 => 3 | 4 => 4 | 5 => 5 | 21 => 21 | 117 => 169 | 116 => 168 | 0 => 0 | 46 => 123 | 124 => 172 | n => n, fun | n => n⟩
theorem Tryz.lays153 : Go.Proofs.Lays.n153 Tryz.prog Tryz.lays153_ren := {
 mixed := by kernel_rfl
 f119 := Tryz.func175.trans (congrArg some (by kernel_rfl))
 f137 := Tryz.func136.trans (congrArg some (by kernel_rfl))
 f152 := Tryz.func157.trans (congrArg some (by kernel_rfl))
 f153 := Tryz.func125.trans (congrArg some (by kernel_rfl))
 f217 := Tryz.func165.trans (congrArg some (by kernel_rfl))
 f224 := Tryz.func149.trans (congrArg some (by kernel_rfl))
 f225 := Tryz.func166.trans (congrArg some (by kernel_rfl))
 f226 := Tryz.func158.trans (congrArg some (by kernel_rfl))
 f227 := Tryz.func95.trans (congrArg some (by kernel_rfl))
 f228 := Tryz.func130.trans (congrArg some (by kernel_rfl))
 f266 := Tryz.func178.trans (congrArg some (by kernel_rfl))
 t0 := Tryz.underlying0
 a0 := Tryz.isAgg0
 z0 := Tryz.sizeOf0
 v0 := Tryz.zeroValue0
 t3 := Tryz.underlying3
 a3 := Tryz.isAgg3
 z3 := Tryz.sizeOf3
 v3 := Tryz.zeroValue3
 t4 := Tryz.underlying4
 a4 := Tryz.isAgg4
 z4 := Tryz.sizeOf4
 v4 := Tryz.zeroValue4
 t5 := Tryz.underlying5
 a5 := Tryz.isAgg5
 z5 := Tryz.sizeOf5
 v5 := Tryz.zeroValue5
 t9 := Tryz.underlying9
 a9 := Tryz.isAgg9
 z9 := Tryz.sizeOf9
 v9 := Tryz.zeroValue9
 t21 := Tryz.underlying21
 a21 := Tryz.isAgg21
 z21 := Tryz.sizeOf21
 v21 := Tryz.zeroValue21
 t46 := Tryz.underlying123
 a46 := Tryz.isAgg123
 z46 := Tryz.sizeOf123
 v46 := Tryz.zeroValue123
 t116 := Tryz.underlying168
 a116 := Tryz.isAgg168
 z116 := Tryz.sizeOf168
 t117 := Tryz.underlying169
 a117 := Tryz.isAgg169
 z117 := Tryz.sizeOf169
 v117 := Tryz.zeroValue169
 t124 := Tryz.underlying172
 a124 := Tryz.isAgg172
 z124 := Tryz.sizeOf172
 v124 := Tryz.zeroValue172 }
open Go.RowKit Go.Lib in
theorem Tryz.strings_IndexAny_long (hv116 : ∀ w, (zeroValue 168).run Tryz.prog w = .ok (.agg (Array.replicate 256 (.bool false))) w) (s chars : ByteArray) (w : World) (h2 : 2 ≤ chars.size) (h8 : 8 < s.size) (hs : s.size < 4294967281) (hcs : chars.size < 4294967281) (hascii : ∀ (j : Nat) b, chars.data.toList[j]? = some b → b.toNat < 128) :
  Calls Tryz.prog 125 #[.string s, .string chars] w fun e w' => e = .returned (.int .i64 (Lib.indexAny s.data.toList chars.data.toList)) ∧ w' = ((w.alloc (.cells (Lib.setCells chars.data.toList) 168)).alloc (.cells (Lib.setCells chars.data.toList) 168)) := Any.strings_IndexAny_long Tryz.lays153 hv116 (by kernel_rfl) s chars w h2 h8 hs hcs hascii
end Go.Proofs


namespace Go.Proofs.YtliaddbbmnfioaaGreatDoor
open Go.RowKit
variable [Bf]
set_option linter.unusedSectionVars false
set_option linter.unusedVariables false
set_option linter.unusedSimpArgs false
theorem Bj.ofSame {f : FuncId} {args : List Value} {r : Value} (h : ∀ (F : Nat → Prop) w, IZ F w → Calls Tryz.prog f args.toArray w fun e w' => e = .returned r ∧ w' = w) : Bj Tryz.prog f (args.map .val) (fun x => x = .val r) := by
 intro β F w vs hF hv
 have hvs : vs = args := by
  clear h hF
  induction args generalizing vs with
  | nil => rw [List.map_nil, BU.nil] at hv; exact hv
  | cons a args ih =>
   rw [List.map_cons] at hv
   obtain ⟨v, us, rfl, h1, h2⟩ := BU.cons.1 hv
   have := Rep.val.1 (Or.inl h1 : Rep _ _ _ _)
   rw [this, ih us h2]
 subst hvs
 refine (h F w hF.2).mono ?_
 rintro e w' ⟨rfl, rfl⟩
 exact ⟨_, _, F, rfl, rfl, Rep.of_val, ⟨rfl, rfl, rfl, Nat.le_refl _, fun _ _ => rfl, fun _ h => h, fun _ _ h => h, hF.1⟩⟩
theorem AAT (i : Nat) (hi : i < 100) : Bj Tryz.prog 126 [i64 (i : Int)] (fun x => x = ts (Lib.decDigits i)) :=
 Bj.ofSame (f := 126) (args := [.int .i64 (i : Int)]) (r := .string (str (Lib.decDigits i))) fun F w _ => Tryz.internal_strconv_small i hi w
variable [Ak]
theorem Atq {F : Nat → Prop} {w : World} (h : IZ F w) : Lib.TabIs Tryz.prog w "internal/strconv.uint64pow10" .u64 Lib.pow10Tab := by
 obtain ⟨_, t, fr, h1⟩ := h 3 _ Ak.k
 have h2 : Tryz.prog.globalNamed "internal/strconv.uint64pow10" = some 3 := by kernel_rfl
 have h3 : AU.cells.toArray = (Lib.pow10Tab.map fun z => Value.int .u64 z).toArray := by kernel_rfl
 unfold Lib.TabIs World.var?
 rw [h2, Option.bind_some, h1, h3]
theorem Aoj (u : Nat) (h1 : 1 ≤ u) (h2 : u < 18446744073709551616) : Bj Tryz.prog 127 [.val (.int .u64 (u : Int))] (fun x => x = i64 (Lib.nDigits u : Int)) :=
 Bj.ofSame (f := 127) (args := [.int .u64 (u : Int)]) (r := .int .i64 (Lib.nDigits u : Int)) fun F w hg => Tryz.internal_strconv_numDigits u h1 h2 w (Atq hg)
theorem Auj (u : Nat) : (Lib.decDigits u).length = Lib.nDigits u := by rw [← Aqx, Ama]
theorem Ar5 {n : Nat} (h : n ≤ 24) : (List.replicate 24 (TV.val (.int .u8 ((0 : Nat) : Int)))) = ((List.replicate n (0 : UInt8)).map by8) ++ List.replicate (24 - n) (.val (.int .u8 ((0 : Nat) : Int))) := by
 have e : (TV.val (.int .u8 ((0 : Nat) : Int))) = by8 0 := rfl
 rw [e, List.map_replicate, List.replicate_append_replicate, show n + (24 - n) = 24 by omega]
theorem Amt (u : Nat) (hu : u < 18446744073709551616) : Bj Tryz.prog 180 [.val (.int .u64 (u : Int)), i64 ((10 : Nat) : Int)] (fun x => x = ts (Lib.decDigits u)) := by
 refine Aw.toPureV (P5 (by simp) ?_)
 have hw : u ≤ 9223372036854775807 → IntKind.i64.wrap (u : Int) = (u : Int) := fun h => Dp (by omega) (by omega)
 by_cases c : u < 100
 ·have hw := hw (by omega)
  simp -dsimp (disch := first | assumption | omega | (simp only [Ad]; done) | (simp only [Ad]; omega)) only [↓Ai, Ae, Ag, Ah, eq_self, Nat.reduceEqDiff, ↓reduceIte, Nat.reduceAdd, reduceCtorEq, ↓CP, hw]
  refine (AAT u c).calls rfl fun r hr => ?_
  subst hr
  simp -dsimp (disch := first | assumption | omega | (simp only [Ad]; done) | (simp only [Ad]; omega)) only [↓Ai, Ae, Ag, Ah, eq_self, ↓reduceIte, ↓CP]
 ·have hn := Lib.nDigits_le20 u hu
  have hp := Lib.nDigits_pos u
  have hlt := AoL u
  have hz := Ar5 (n := Lib.nDigits u) (by omega)
  simp only [List.replicate] at hz
  simp -dsimp (disch := first | assumption | omega | (simp only [Ad]; done) | (simp only [Ad]; omega)) only [↓Ai, Ae, Ag, Ah, eq_self, Nat.reduceEqDiff, ↓reduceIte, Nat.reduceAdd, reduceCtorEq, ↓CP]
  refine (Aoj u (by omega) hu).calls rfl fun r hr => ?_
  subst hr
  simp -dsimp (disch := first | assumption | omega | (simp only [Ad]; done) | (simp only [Ad]; omega)) only [↓Ai, Ae, Ag, Ah, eq_self, Nat.reduceEqDiff, ↓reduceIte, reduceCtorEq, Nat.reduceLeDiff]
  rw [hz]
  refine Afv (ACg hlt hp (by omega) hu (by simp) rfl ?_)
  have hdl : (dgs (Lib.nDigits u) u).length = Lib.nDigits u := Ama _ _
  have htk : ∀ R : List TV, ((dgs (Lib.nDigits u) u).map by8 ++ R).take (Lib.nDigits u) = (dgs (Lib.nDigits u) u).map by8 := fun R => List.take_left' (by simp [hdl])
  have hall : ∀ y ∈ (dgs (Lib.nDigits u) u).map by8, Amu y := fun y hy => by obtain ⟨b, _, rfl⟩ := List.mem_map.1 hy; exact Aem b
  have hda := Aqx u
  simp -dsimp (disch := first | assumption | omega | (simp only [Ad]; done) | (simp only [Ad]; omega)) only [↓Ai, Ae, Ag, Ah, eq_self, Nat.reduceEqDiff, ↓reduceIte, reduceCtorEq, Nat.reduceLeDiff, ↓CP, htk, hdl]
  rw [hda]
theorem AmL (u : Nat) (hu : u < 18446744073709551616) : Bj Tryz.prog 168 [.val (.int .u64 (u : Int)), i64 ((10 : Nat) : Int)] (fun x => x = ts (Lib.decDigits u)) := by
 refine Aw.toPureV (Aa1 (by simp) ?_)
 simp -dsimp (disch := first | assumption | omega | (simp only [Ad]; done) | (simp only [Ad]; omega)) only [↓Ai, Ae, Ag, Ah, eq_self, Nat.reduceEqDiff, ↓reduceIte, Nat.reduceAdd, reduceCtorEq, ↓Rk]
 refine (Amt u hu).calls rfl fun r hr => ?_
 subst hr
 simp -dsimp (disch := first | assumption | omega | (simp only [Ad]; done) | (simp only [Ad]; omega)) only [↓Ai, Ae, Ag, Ah, eq_self, ↓reduceIte, ↓Rk]
end Go.Proofs.YtliaddbbmnfioaaGreatDoor


namespace Go.Proofs.YtliaddbbmnfioaaGreatDoor
variable [Bf]
set_option linter.unusedSectionVars false
set_option linter.unusedVariables false
set_option linter.defProp false
set_option maxRecDepth 100000



def Sj : Af := .seq (.ops [mv_ 7 0,
  so_ 8 (.call 89 [.t 7, .c (.int .i64 ((10 : Nat) : Int)), .c (.int .i64 ((62 : Nat) : Int))]),
  mv_ 6 8,
  po_ 9 (.ext 0 (.t 6)),
  po_ 10 (.ext 1 (.t 6)),
  mv_ 4 9,
  mv_ 5 10] [0, 4, 5])
 (.seq (.ops [mv_ 11 4,
  po_ 12 (.conv .i64 (.t 11)),
  mv_ 13 5,
  po_ 14 (.eqN 1 (.t 13) (.c .nilIface) false),
  mv_ 15 14,
  ⟨some 16, .p (.mov (.t 4)), some ⟨15, true⟩⟩,
  ⟨some 17, .s (.call 168 [.t 16, .c (.int .i64 ((10 : Nat) : Int))]), some ⟨15, true⟩⟩,
  ⟨some 18, .p (.mov (.t 0)), some ⟨15, true⟩⟩,
  ⟨some 19, .p (.bin 9 .eql (.t 17) (.t 18)), some ⟨15, true⟩⟩,
  po_ 20 (.pick (.t 15) (.t 19) (.c (.bool false))),
  mv_ 2 12,
  mv_ 3 20] [2, 3])
 (.ret))
def Ze : Af := .seq (.ops [po_ 2 (.mov (ci_ 0)),
  po_ 3 (.mov (.c (.bool false)))] [0])
 Sj
def Zl : List VR := [.tmp 2, .tmp 3]
theorem AgC : Tryz.f137.body.bind (trC Tryz.prog Tryz.f137.ntmps) = some (er Ze) := by kernel_rfl
theorem AgB : trR Tryz.prog Tryz.f137.results.toList = some Zl := by kernel_rfl
def AaE := Aa Sj.eq_1
def AeX := Aa Ze.eq_1
theorem AeQ {K : TV → Prop} {e : Env} {H : List Ob} : res Zl e H K = res [.tmp 2, .tmp 3] e H K := Ac rfl
def QE := (And.intro (And.intro @AaE @AeX) @AeQ)
def AfU := DD 21 Tryz.func137 AgC AgB rfl





def Y9 : Af := .seq (.ops [mv_ 76 0,
  mv_ 77 8,
  po_ 78 (.bin 3 .add (.t 77) (ci_ 1)),
  mv_ 79 9,
  po_ 80 (.slV 1 (.t 76) (some (.t 78)) (some (.t 79))),
  mv_ 81 6,
  so_ 82 (.call 146 [.t 80, .t 81]),
  mv_ 11 82] [0, 1, 5, 6, 7, 8, 9, 10, 11, 12])
 (.seq (.seq (.ops [mv_ 83 11,
  po_ 84 (.bin 3 .lss (.t 83) (ci_ 0))] [0, 1, 5, 6, 7, 8, 9, 10, 11, 12, 84])
 (.cond (.t 84)
 (.seq (.ops [po_ 4 (.mov (.c (.int .i64 (-1))))] [4])
  (.ret))
 (.skip)))
 (.ops [mv_ 85 8,
  mv_ 86 11,
  po_ 87 (.bin 3 .add (.t 86) (ci_ 1)),
  po_ 88 (.bin 3 .add (.t 85) (.t 87)),
  mv_ 8 88] [0, 1, 5, 6, 7, 8, 9, 10, 12]))
def Zu : Af := .cond (.t 75)
 Y9
 (.skip)
def YX : Af := .seq (.dead)
 (.seq (.seq (.ops [mv_ 120 12,
  po_ 121 (.bin 3 .geq (.t 120) (ci_ 0))] [8, 12, 121])
 (.cond (.t 121)
 (.seq (.ops [mv_ 122 12,
   mv_ 123 8,
   po_ 124 (.bin 3 .add (.t 122) (.t 123)),
   mv_ 4 124] [4])
  (.ret))
 (.skip)))
 (.seq (.ops [po_ 4 (.mov (.c (.int .i64 (-1))))] [4])
 (.ret)))
def Zi : Af := .seq (.ops [mv_ 109 8,
  po_ 110 (.bin 3 .add (.t 109) (ci_ 1)),
  mv_ 8 110] [0, 1, 5, 6, 7, 8, 9, 10, 12])
 (.seq (.ops [mv_ 111 10,
  mv_ 112 8,
  so_ 113 (.call 149 [.t 112]),
  po_ 114 (.bin 3 .gtr (.t 111) (.t 113))] [0, 1, 5, 6, 7, 8, 9, 10, 12, 114])
 (.cond (.t 114)
 YX
 (.skip)))
def Zp : Af := .seq (.ops [mv_ 107 10,
  po_ 108 (.bin 3 .add (.t 107) (ci_ 1)),
  mv_ 10 108] [0, 1, 5, 6, 7, 8, 9, 10, 12])
 Zi
def Zq : Af := .seq (.seq (.ops [mv_ 89 0,
  mv_ 90 8,
  po_ 91 (.bin 3 .add (.t 90) (ci_ 1)),
  po_ 92 (.idxA 1 (.t 89) (.t 91)),
  po_ 93 (.load false 1 (.t 92)),
  mv_ 94 7,
  po_ 95 (.bin 5 .eql (.t 93) (.t 94)),
  mv_ 96 95,
  ⟨some 97, .p (.mov (.t 0)), some ⟨96, true⟩⟩,
  ⟨some 98, .p (.mov (.t 8)), some ⟨96, true⟩⟩,
  ⟨some 99, .p (.mov (.t 8)), some ⟨96, true⟩⟩,
  ⟨some 100, .p (.mov (.t 5)), some ⟨96, true⟩⟩,
  ⟨some 101, .p (.bin 3 .add (.t 99) (.t 100)), some ⟨96, true⟩⟩,
  ⟨some 102, .p (.slV 1 (.t 97) (some (.t 98)) (some (.t 101))), some ⟨96, true⟩⟩,
  ⟨some 103, .p (.mov (.t 1)), some ⟨96, true⟩⟩,
  ⟨some 104, .s (.call 147 [.t 102, .t 103]), some ⟨96, true⟩⟩,
  po_ 105 (.pick (.t 96) (.t 104) (.c (.bool false)))] [0, 1, 5, 6, 7, 8, 9, 10, 12, 105])
 (.cond (.t 105)
 (.seq (.ops [mv_ 106 8,
   mv_ 4 106] [4])
  (.ret))
 (.skip)))
 Zp
def Y5 : Af := .block 2 (.seq (.seq (.ops [mv_ 70 0,
  mv_ 71 8,
  po_ 72 (.idxA 1 (.t 70) (.t 71)),
  po_ 73 (.load false 1 (.t 72)),
  mv_ 74 6,
  po_ 75 (.bin 5 .neq (.t 73) (.t 74))] [0, 1, 5, 6, 7, 8, 9, 10, 12, 75])
 Zu)
 Zq)
def YY : Af := .seq (.seq (.ops [mv_ 67 8,
  mv_ 68 9,
  po_ 69 (.bin 3 .lss (.t 67) (.t 68))] [0, 1, 5, 6, 7, 8, 9, 10, 12, 69])
 (.cond (.t 69)
 (.skip)
 (.exit 1)))
 Y5
def Zj : Af := .seq (.ops [po_ 4 (.mov (.c (.int .i64 (-1))))] [4])
 (.ret)
def VH : Af := .seq (.block 1 (.loop [0, 1, 5, 6, 7, 8, 9, 10, 12] YY))
 Zj
def WE : Af := .seq (.ops [po_ 10 (.mov (ci_ 0))] [0, 1, 5, 6, 7, 8, 9, 10, 12])
 VH
def Xg : Af := .seq (.ops [mv_ 62 0,
  po_ 63 (.lenV (.t 62)),
  mv_ 64 5,
  po_ 65 (.bin 3 .sub (.t 63) (.t 64)),
  po_ 66 (.bin 3 .add (.t 65) (ci_ 1)),
  mv_ 9 66] [0, 1, 5, 6, 7, 8, 9, 12])
 WE
def WJ : Af := .seq (.ops [po_ 8 (.mov (ci_ 0))] [0, 1, 5, 6, 7, 8, 12])
 Xg
def V8 : Af := .seq (.ops [mv_ 59 1,
  po_ 60 (.idxA 1 (.t 59) (ci_ 1)),
  po_ 61 (.load false 1 (.t 60)),
  mv_ 7 61] [0, 1, 5, 6, 7, 12])
 WJ
def WN : Af := .seq (.ops [mv_ 56 1,
  po_ 57 (.idxA 1 (.t 56) (ci_ 0)),
  po_ 58 (.load false 1 (.t 57)),
  mv_ 6 58] [0, 1, 5, 6, 12])
 V8
def Ve : Af := .seq (.seq (.ops [mv_ 50 0,
  po_ 51 (.lenV (.t 50)),
  po_ 52 (.bin 3 .leq (.t 51) (ci_ 64))] [0, 1, 4, 5, 12, 52])
 (.cond (.t 52)
 (.seq (.dead)
  (.ret))
 (.skip)))
 WN
def WP : Af := .cond (.t 46)
 Ve
 (.skip)
def Xe : Af := .seq (.ops [mv_ 47 5,
  po_ 48 (.load false 1 (.g 2)),
  po_ 49 (.bin 3 .leq (.t 47) (.t 48)),
  mv_ 46 49] [0, 1, 4, 5, 12, 46])
 WP
def V7 : Af := .cond (.t 41)
 (.seq (.ops [po_ 4 (.mov (.c (.int .i64 (-1))))] [4])
  (.ret))
 Xe
def Vh : Af := .seq (.ops [mv_ 42 5,
  mv_ 43 0,
  po_ 44 (.lenV (.t 43)),
  po_ 45 (.bin 3 .gtr (.t 42) (.t 44)),
  mv_ 41 45] [0, 1, 4, 5, 12, 41])
 V7
def WV : Af := .cond (.t 33)
 (.seq (.seq (.ops [mv_ 38 1,
   mv_ 39 0,
   so_ 40 (.call 147 [.t 38, .t 39])] [40])
  (.cond (.t 40)
  (.seq (.ops [po_ 4 (.mov (ci_ 0))] [4])
   (.ret))
  (.skip)))
  (.seq (.ops [po_ 4 (.mov (.c (.int .i64 (-1))))] [4])
  (.ret)))
 Vh
def Vg : Af := .seq (.ops [mv_ 34 5,
  mv_ 35 0,
  po_ 36 (.lenV (.t 35)),
  po_ 37 (.bin 3 .eql (.t 34) (.t 36)),
  mv_ 33 37] [0, 1, 4, 5, 12, 33])
 WV
def VF : Af := .cond (.t 25)
 (.seq (.ops [mv_ 28 0,
   mv_ 29 1,
   po_ 30 (.idxA 1 (.t 29) (ci_ 0)),
   po_ 31 (.load false 1 (.t 30)),
   so_ 32 (.call 146 [.t 28, .t 31]),
   mv_ 4 32] [4])
  (.ret))
 Vg
def VT : Af := .seq (.ops [mv_ 26 5,
  po_ 27 (.bin 3 .eql (.t 26) (ci_ 1)),
  mv_ 25 27] [0, 1, 4, 5, 12, 25])
 VF
def VU : Af := .cond (.t 22)
 (.seq (.ops [po_ 4 (.mov (ci_ 0))] [4])
  (.ret))
 VT
def XE : Af := .seq (.ops [mv_ 145 0,
  mv_ 146 15,
  po_ 147 (.bin 3 .add (.t 146) (ci_ 1)),
  mv_ 148 17,
  po_ 149 (.slV 1 (.t 145) (some (.t 147)) (some (.t 148))),
  mv_ 150 13,
  so_ 151 (.call 146 [.t 149, .t 150]),
  mv_ 18 151] [0, 1, 5, 13, 14, 15, 16, 17, 18])
 (.seq (.seq (.ops [mv_ 152 18,
  po_ 153 (.bin 3 .lss (.t 152) (ci_ 0))] [0, 1, 5, 13, 14, 15, 16, 17, 18, 153])
 (.cond (.t 153)
 (.exit 3)
 (.skip)))
 (.ops [mv_ 154 15,
  mv_ 155 18,
  po_ 156 (.bin 3 .add (.t 155) (ci_ 1)),
  po_ 157 (.bin 3 .add (.t 154) (.t 156)),
  mv_ 15 157] [0, 1, 5, 13, 14, 15, 16, 17]))
def VP : Af := .cond (.t 144)
 XE
 (.skip)
def Xy : Af := .seq (.ops [mv_ 190 0,
  mv_ 191 15,
  po_ 192 (.slV 1 (.t 190) (some (.t 191)) none),
  mv_ 193 1,
  so_ 194 (.call 150 [.t 192, .t 193]),
  mv_ 19 194] [15, 19])
 (.seq (.seq (.ops [mv_ 195 19,
  po_ 196 (.bin 3 .lss (.t 195) (ci_ 0))] [15, 19, 196])
 (.cond (.t 196)
 (.seq (.ops [po_ 4 (.mov (.c (.int .i64 (-1))))] [4])
  (.ret))
 (.skip)))
 (.seq (.ops [mv_ 197 15,
  mv_ 198 19,
  po_ 199 (.bin 3 .add (.t 197) (.t 198)),
  mv_ 4 199] [4])
 (.ret)))
def Xv : Af := .cond (.t 189)
 Xy
 (.skip)
def WB : Af := .seq (.ops [mv_ 180 16,
  mv_ 181 15,
  po_ 182 (.bin 3 .shr (.t 181) (.c (.int .u64 ((4 : Nat) : Int)))),
  po_ 183 (.bin 3 .add (ci_ 4) (.t 182)),
  po_ 184 (.bin 3 .geq (.t 180) (.t 183)),
  mv_ 185 184,
  ⟨some 186, .p (.mov (.t 15)), some ⟨185, true⟩⟩,
  ⟨some 187, .p (.mov (.t 17)), some ⟨185, true⟩⟩,
  ⟨some 188, .p (.bin 3 .lss (.t 186) (.t 187)), some ⟨185, true⟩⟩,
  po_ 189 (.pick (.t 185) (.t 188) (.c (.bool false)))] [0, 1, 5, 13, 14, 15, 16, 17, 189])
 Xv
def WR : Af := .seq (.ops [mv_ 178 16,
  po_ 179 (.bin 3 .add (.t 178) (ci_ 1)),
  mv_ 16 179] [0, 1, 5, 13, 14, 15, 16, 17])
 WB
def Wj : Af := .seq (.ops [mv_ 176 15,
  po_ 177 (.bin 3 .add (.t 176) (ci_ 1)),
  mv_ 15 177] [0, 1, 5, 13, 14, 15, 16, 17])
 WR
def VL : Af := .seq (.seq (.ops [mv_ 158 0,
  mv_ 159 15,
  po_ 160 (.bin 3 .add (.t 159) (ci_ 1)),
  po_ 161 (.idxA 1 (.t 158) (.t 160)),
  po_ 162 (.load false 1 (.t 161)),
  mv_ 163 14,
  po_ 164 (.bin 5 .eql (.t 162) (.t 163)),
  mv_ 165 164,
  ⟨some 166, .p (.mov (.t 0)), some ⟨165, true⟩⟩,
  ⟨some 167, .p (.mov (.t 15)), some ⟨165, true⟩⟩,
  ⟨some 168, .p (.mov (.t 15)), some ⟨165, true⟩⟩,
  ⟨some 169, .p (.mov (.t 5)), some ⟨165, true⟩⟩,
  ⟨some 170, .p (.bin 3 .add (.t 168) (.t 169)), some ⟨165, true⟩⟩,
  ⟨some 171, .p (.slV 1 (.t 166) (some (.t 167)) (some (.t 170))), some ⟨165, true⟩⟩,
  ⟨some 172, .p (.mov (.t 1)), some ⟨165, true⟩⟩,
  ⟨some 173, .s (.call 147 [.t 171, .t 172]), some ⟨165, true⟩⟩,
  po_ 174 (.pick (.t 165) (.t 173) (.c (.bool false)))] [0, 1, 5, 13, 14, 15, 16, 17, 174])
 (.cond (.t 174)
 (.seq (.ops [mv_ 175 15,
   mv_ 4 175] [4])
  (.ret))
 (.skip)))
 Wj
def XO : Af := .block 4 (.seq (.seq (.ops [mv_ 139 0,
  mv_ 140 15,
  po_ 141 (.idxA 1 (.t 139) (.t 140)),
  po_ 142 (.load false 1 (.t 141)),
  mv_ 143 13,
  po_ 144 (.bin 5 .neq (.t 142) (.t 143))] [0, 1, 5, 13, 14, 15, 16, 17, 144])
 VP)
 VL)
def Xd : Af := .seq (.seq (.ops [mv_ 136 15,
  mv_ 137 17,
  po_ 138 (.bin 3 .lss (.t 136) (.t 137))] [0, 1, 5, 13, 14, 15, 16, 17, 138])
 (.cond (.t 138)
 (.skip)
 (.exit 3)))
 XO
def XK : Af := .seq (.ops [po_ 4 (.mov (.c (.int .i64 (-1))))] [4])
 (.ret)
def Xf : Af := .seq (.block 3 (.loop [0, 1, 5, 13, 14, 15, 16, 17] Xd))
 XK
def Wn : Af := .seq (.ops [mv_ 131 0,
  po_ 132 (.lenV (.t 131)),
  mv_ 133 5,
  po_ 134 (.bin 3 .sub (.t 132) (.t 133)),
  po_ 135 (.bin 3 .add (.t 134) (ci_ 1)),
  mv_ 17 135] [0, 1, 5, 13, 14, 15, 16, 17])
 Xf
def WQ : Af := .seq (.ops [po_ 16 (.mov (ci_ 0))] [0, 1, 5, 13, 14, 15, 16])
 Wn
def VJ : Af := .seq (.ops [po_ 15 (.mov (ci_ 0))] [0, 1, 5, 13, 14, 15])
 WQ
def WO : Af := .seq (.ops [mv_ 128 1,
  po_ 129 (.idxA 1 (.t 128) (ci_ 1)),
  po_ 130 (.load false 1 (.t 129)),
  mv_ 14 130] [0, 1, 5, 13, 14])
 VJ
def WF : Af := .seq (.ops [mv_ 125 1,
  po_ 126 (.idxA 1 (.t 125) (ci_ 0)),
  po_ 127 (.load false 1 (.t 126)),
  mv_ 13 127] [0, 1, 5, 13])
 WO
def Vq : Af := .seq (.block 0 (.seq (.ops [mv_ 23 5,
  po_ 24 (.bin 3 .eql (.t 23) (ci_ 0)),
  mv_ 22 24] [0, 1, 4, 5, 12, 22])
 VU))
 WF
def WH : Af := .seq (.ops [mv_ 20 1,
  po_ 21 (.lenV (.t 20)),
  mv_ 5 21] [0, 1, 4, 5, 12])
 Vq
def AeS : Af := .seq (.ops [po_ 4 (.mov (ci_ 0))] [0, 1, 4, 12])
 WH
def Ad8 : List VR := [.tmp 4]
theorem Ajl : Tryz.f122.body.bind (trC Tryz.prog Tryz.f122.ntmps) = some (er AeS) := by kernel_rfl
theorem AjD : trR Tryz.prog Tryz.f122.results.toList = some Ad8 := by kernel_rfl
def Ad9 := Aa Y9.eq_1
def Aei := Aa Zu.eq_1
def AeD := Aa YX.eq_1
def Ae9 := Aa Zi.eq_1
def Aej := Aa Zp.eq_1
def AeC := Aa Zq.eq_1
def AeV := Aa Y5.eq_1
def Aef := Aa YY.eq_1
def Aea := Aa Zj.eq_1
def AdN := Aa VH.eq_1
def AcN := Aa WE.eq_1
def AcC := Aa Xg.eq_1
def AcF := Aa WJ.eq_1
def Adl := Aa V8.eq_1
def Ac6 := Aa WN.eq_1
def Adi := Aa Ve.eq_1
def AcT := Aa WP.eq_1
def AdK := Aa Xe.eq_1
def AdJ := Aa V7.eq_1
def AcP := Aa Vh.eq_1
def Adu := Aa WV.eq_1
def AcU := Aa Vg.eq_1
def Ade := Aa VF.eq_1
def Ac0 := Aa VT.eq_1
def AcX := Aa VU.eq_1
def AdO := Aa XE.eq_1
def AcK := Aa VP.eq_1
def Adp := Aa Xy.eq_1
def Acy := Aa Xv.eq_1
def AcQ := Aa WB.eq_1
def AcH := Aa WR.eq_1
def Adf := Aa Wj.eq_1
def AdB := Aa VL.eq_1
def AdF := Aa XO.eq_1
def Acs := Aa Xd.eq_1
def AcI := Aa XK.eq_1
def Ac5 := Aa Xf.eq_1
def Adk := Aa Wn.eq_1
def Adn := Aa WQ.eq_1
def AcE := Aa VJ.eq_1
def Acz := Aa WO.eq_1
def AdU := Aa WF.eq_1
def AdL := Aa Vq.eq_1
def Ac1 := Aa WH.eq_1
def AhF := Aa AeS.eq_1
theorem Ahg {K : TV → Prop} {e : Env} {H : List Ob} : res Ad8 e H K = res [.tmp 4] e H K := Ac rfl
def Ad3 := (And.intro (And.intro (And.intro (And.intro (And.intro (And.intro @Ad9 @Aei) (And.intro @AeD @Ae9)) (And.intro (And.intro @Aej @AeC) (And.intro @AeV @Aef))) (And.intro (And.intro (And.intro @Aea @AdN) (And.intro @AcN @AcC)) (And.intro (And.intro @AcF @Adl) (And.intro @Ac6 @Adi)))) (And.intro (And.intro (And.intro (And.intro @AcT @AdK) (And.intro @AdJ @AcP)) (And.intro (And.intro @Adu @AcU) (And.intro @Ade @Ac0))) (And.intro (And.intro (And.intro @AcX @AdO) (And.intro @AcK @Adp)) (And.intro (And.intro @Acy @AcQ) (And.intro @AcH @Adf))))) (And.intro (And.intro (And.intro (And.intro @AdB @AdF) (And.intro @Acs @AcI)) (And.intro (And.intro @Ac5 @Adk) (And.intro @Adn @AcE))) (And.intro (And.intro (And.intro @Acz @AdU) (And.intro @AdL @Ac1)) (And.intro @AhF @Ahg))))
def Ah4 := DD 200 Tryz.func122 Ajl AjD rfl

end Go.Proofs.YtliaddbbmnfioaaGreatDoor


namespace Go.Proofs.YtliaddbbmnfioaaGreatDoor
open Go.RowKit
variable [Bf]
set_option linter.unusedSectionVars false
set_option linter.unusedVariables false
set_option linter.unusedSimpArgs false

section
variable [Ep]
end
end Go.Proofs.YtliaddbbmnfioaaGreatDoor


namespace Go.Proofs.YtliaddbbmnfioaaGreatDoor
open Go.RowKit
variable [Bf]
set_option linter.unusedSectionVars false
set_option linter.unusedVariables false
set_option linter.unusedSimpArgs false
def GZ (b : UInt8) : Bool := 48 ≤ b.toNat && b.toNat ≤ 57
def Vm : Nat → List UInt8 → Nat
 | n, [] => n
 | n, b :: l => Vm (n * 10 + (b.toNat - 48)) l
theorem TC : ∀ (l m : List UInt8) (n : Nat), Vm n (l ++ m) = Vm (Vm n l) m
 | [], _, _ => rfl
 | b :: l, m, n => TC l m _
theorem AmK : ∀ (l : List UInt8) (n : Nat), n ≤ Vm n l
 | [], n => Nat.le_refl _
 | b :: l, n => Nat.le_trans (by omega) (AmK l _)
def pU (s : List UInt8) : Option Nat := if s ≠ [] ∧ s.all GZ ∧ Vm 0 s < 4611686018427387904 then some (Vm 0 s) else none
theorem AEQ : ∀ b : Nat, b < 256 → ¬ (48 ≤ b ∧ b ≤ 57) → 97 ≤ b ||| 32 → b ||| 32 ≤ 122 → 10 ≤ (b ||| 32) - 97 + 10 := by
 intro b h1 h2 h3 h4; omega
def Ali (s : List UInt8) (r : TV) : Prop := (∀ n, pU s = some n → r = .tup [.val (.int .u64 (n : Int)), .val .nilIface]) ∧ (pU s = none → ∃ m c : Nat, (c = 1 ∨ c = 2) ∧ r = .tup [.val (.int .u64 (m : Int)), .ifc 228 (i64 (c : Int))])
theorem Ali.no {s : List UInt8} (h : pU s = none) {m c : Nat} (hc : c = 1 ∨ c = 2) : Ali s (.tup [.val (.int .u64 (m : Int)), .ifc 228 (i64 (c : Int))]) :=
 ⟨fun n hn => (by rw [h] at hn; cases hn), fun _ => ⟨m, c, hc, rfl⟩⟩
theorem Ali.yes {s : List UInt8} {n : Nat} (h : pU s = some n) : Ali s (.tup [.val (.int .u64 (n : Int)), .val .nilIface]) :=
 ⟨fun m hm => (by rw [h] at hm; cases hm; rfl), fun hn => (by rw [h] at hn; cases hn)⟩
theorem AAC {s : List UInt8} {i : Nat} {b : UInt8} (h : s[i]? = some b) (hb : GZ b = false) : pU s = none := by
 unfold pU
 rw [if_neg]
 rintro ⟨_, h2, _⟩
 have := List.all_eq_true.1 h2 b (List.mem_of_getElem? h)
 rw [hb] at this; cases this
theorem AvX {s : List UInt8} {i : Nat} (h : 4611686018427387904 ≤ Vm 0 (s.take i)) : pU s = none := by
 unfold pU
 rw [if_neg]
 rintro ⟨_, _, h3⟩
 have : Vm 0 s = Vm (Vm 0 (s.take i)) (s.drop i) := by rw [← TC, List.take_append_drop]
 have h4 := AmK (s.drop i) (Vm 0 (s.take i))
 omega
theorem Zt (b : UInt8) : Bj Tryz.prog 151 [by8 b] (fun r => r = .val (.int .u8 ((b.toNat ||| 32 : Nat) : Int))) := by
 refine Aw.toPureV (Uc (by simp) ?_)
 have hb := b.toNat_lt
 simp -dsimp (disch := first | assumption | omega | (simp only [Ad]; done) | (simp only [Ad]; omega)) only [↓Ai, Ae, Ag, Ah, eq_self, ↓reduceIte, reduceCtorEq, ↓WL, AD0]
theorem AAm (s : List UInt8) (hs : s.length ≤ 1000000) : Bj Tryz.prog 123 [ts s, i64 ((10 : Nat) : Int), i64 ((62 : Nat) : Int)] (Ali s) := by
 refine Aw.toPureV (Ha (by simp) ?_)
 by_cases h0 : s = []
 ·subst h0
  have hn : pU [] = none := by unfold pU; simp
  simp -dsimp (disch := first | assumption | omega | (simp only [Ad]; done) | (simp only [Ad]; omega)) only [↓Ai, Ae, Ag, Ah, eq_self, Nat.reduceEqDiff, ↓reduceIte, Nat.reduceAdd, reduceCtorEq, ↓CE, ↓BP, ↓Aj]
  exact Ali.no hn (.inr rfl)
 have hw1 : IntKind.u64.wrap ((62 : Nat) : Int) = ((62 : Nat) : Int) := YQ (by omega)
 simp -dsimp (disch := first | assumption | omega | (simp only [Ad]; done) | (simp only [Ad]; omega)) only [↓Ai, Ae, Ag, Ah, eq_self, Nat.reduceLT, Nat.reduceEqDiff, ↓reduceIte, Nat.reduceAdd, reduceCtorEq, Nat.reduceLeDiff, ↓CE, ↓BP, h0, ↓EO, ↓EP, ↓EW, ↓EC, ↓EY, ↓Ew]
 simp -dsimp (disch := first | assumption | omega | (simp only [Ad]; done) | (simp only [Ad]; omega)) only [↓Ai, Ae, Ag, Ah, eq_self, Nat.reduceEqDiff, Nat.reduceSub, Nat.reduceMul, Nat.reducePow, ↓reduceIte, reduceCtorEq, ↓EG, ↓EF, ↓EN, hw1, AnZ, AnN, ↓EX, ↓ED, ↓EU, AL, ↓Ez]
 refine E9 (fun q e H => ∃ (i n : Nat), q = s.length - i ∧ i ≤ s.length ∧ (s.take i).all GZ = true ∧ n = Vm 0 (s.take i) ∧ n < 4611686018427387904 ∧ H = [.obj 0 (.arr s.length 1 (s.map by8))] ∧
  e = [(1, i64 ((10 : Nat) : Int)), (8, tb false), (9, ts s), (10, .val (.int .u64 ((1844674407370955162 : Nat) : Int))), (11, .val (.int .u64 ((4611686018427387903 : Nat) : Int))), (12, tb false), (13, .val (.int .u64 (n : Int))), (99, .os 1 0 0 [] 0 s.length s.length), (100, i64 (s.length : Int)), (101, i64 (i : Int))]) s.length ?_ ?_
 ·refine ⟨0, 0, ?_, Nat.zero_le _, ?_, ?_, ?_, ?_, ?_⟩
  ·simp
  ·rw [List.take_zero]; rfl
  ·rw [List.take_zero]; rfl
  ·omega
  ·simp
  ·simp [forget, get]
 ·rintro q e H ⟨i, n, rfl, hi, hall, hn, hnl, rfl, rfl⟩
  by_cases c : i < s.length
  ·have hg : s[i]? = some s[i] := List.getElem?_eq_getElem c
   have hsucc := List.take_succ_eq_append_getElem c
   generalize s[i] = b at *
   have hb := b.toNat_lt
   have hnum : Vm 0 (s.take (i + 1)) = n * 10 + (b.toNat - 48) := by rw [hsucc, TC, ← hn]; rfl
   have hw10 : IntKind.u8.wrap ((10 : Nat) : Int) = ((10 : Nat) : Int) := by decide
   have hw10' : IntKind.u64.wrap ((10 : Nat) : Int) = ((10 : Nat) : Int) := by decide
   by_cases hd : 48 ≤ b.toNat ∧ b.toNat ≤ 57
   ·have hisd : GZ b = true := by unfold GZ; simp [hd]
    have h95 : ¬ b.toNat = 95 := by omega
    have hwd : IntKind.u64.wrap ((b.toNat - 48 : Nat) : Int) = ((b.toNat - 48 : Nat) : Int) := YQ (by omega)
    by_cases hc : 1844674407370955162 ≤ n
    ·have hno := AvX (s := s) (i := i + 1) (by rw [hnum]; omega)
     simp -dsimp (disch := first | assumption | omega | (simp only [Ad]; done) | (simp only [Ad]; omega)) only [↓Ai, Ae, Ag, Ah, eq_self, Nat.reduceEqDiff, ↓reduceIte, ↓AA, ↓AB, ↓A8, hg, ↓AZ, ↓AY, h95, ↓Ba, ↓Bc, ↓Az, Zd, ↓A7, hw10, ↓CZ, ↓Aj]
     exact Ali.no hno (.inl rfl)
    ·have hnl2 := hnl
     clear hnl
     have hn10 : n * 10 < 18446744073709551616 := by omega
     have hadd : ∀ t, ET t .add (.int .u64 ((n * 10 : Nat) : Int)) (.int .u64 ((b.toNat - 48 : Nat) : Int)) = some (.int .u64 (((n * 10 + (b.toNat - 48)) % 18446744073709551616 : Nat) : Int)) := fun t => by
      rw [show ET t .add (.int .u64 ((n * 10 : Nat) : Int)) (.int .u64 ((b.toNat - 48 : Nat) : Int)) = some (.int .u64 (IntKind.u64.wrap (((n * 10 : Nat) : Int) + ((b.toNat - 48 : Nat) : Int)))) from rfl, IntKind.wrap_u64]
      congr 2
     simp -dsimp (disch := first | assumption | omega | (simp only [Ad]; done) | (simp only [Ad]; omega)) only [↓Ai, Ae, Ag, Ah, eq_self, Nat.reduceEqDiff, ↓reduceIte, ↓AA, ↓AB, ↓A8, hg, ↓AZ, ↓AY, h95, ↓Ba, ↓Bc, ↓Az, Zd, ↓A7, hw10, ↓CZ, ↓ES, hw10', Aj9, ↓Eu, hwd, hadd, ↓ER]
     by_cases hbig : 4611686018427387904 ≤ n * 10 + (b.toNat - 48)
     ·have hno := AvX (s := s) (i := i + 1) (by rw [hnum]; exact hbig)
      by_cases hwr : (n * 10 + (b.toNat - 48)) % 18446744073709551616 < n * 10
      ·simp -dsimp (disch := first | assumption | omega | (simp only [Ad]; done) | (simp only [Ad]; omega)) only [↓Ai, Ae, Ag, Ah, eq_self, Nat.reduceEqDiff, ↓reduceIte, ↓Aj]
       exact Ali.no hno (.inl rfl)
      ·have hgt : (n * 10 + (b.toNat - 48)) % 18446744073709551616 > 4611686018427387903 := by omega
       simp -dsimp (disch := first | assumption | omega | (simp only [Ad]; done) | (simp only [Ad]; omega)) only [↓Ai, Ae, Ag, Ah, eq_self, Nat.reduceEqDiff, ↓reduceIte, ↓Aj]
       exact Ali.no hno (.inl rfl)
     ·have hmod : (n * 10 + (b.toNat - 48)) % 18446744073709551616 = n * 10 + (b.toNat - 48) := Nat.mod_eq_of_lt (by omega)
      rw [hmod]
      simp -dsimp (disch := first | assumption | omega | (simp only [Ad]; done) | (simp only [Ad]; omega)) only [↓Ai, Ae, Ag, Ah, eq_self, Nat.reduceEqDiff, ↓reduceIte]
      exact Ce (s.length - (i + 1)) (by omega) (by simp) ⟨i + 1, n * 10 + (b.toNat - 48), rfl, by omega, by rw [hsucc, List.all_append, hall]; simp [hisd], hnum.symm, by omega, rfl, by simp [forget, get]⟩
   ·have hno := AAC hg (show GZ b = false by unfold GZ; simp; omega)
    by_cases h95 : b.toNat = 95
    ·have hor : (b.toNat ||| 32) = 127 := by rw [h95]; rfl
     simp -dsimp (disch := first | assumption | omega | (simp only [Ad]; done) | (simp only [Ad]; omega)) only [↓Ai, Ae, Ag, Ah, eq_self, Nat.reduceEqDiff, ↓reduceIte, Nat.reduceLeDiff, ↓AA, ↓AB, ↓A8, hg, ↓AZ, ↓AY, h95, ↓Ba, ↓Bc, ↓Az, ↓Be]
     refine (Zt b).calls rfl fun r hr => ?_
     subst hr
     rw [hor]
     simp -dsimp (disch := first | assumption | omega | (simp only [Ad]; done) | (simp only [Ad]; omega)) only [↓Ai, Ae, Ag, Ah, eq_self, Nat.reduceEqDiff, ↓reduceIte, Nat.reduceLeDiff]
     refine (Zt b).calls rfl fun r hr => ?_
     subst hr
     rw [hor]
     simp -dsimp (disch := first | assumption | omega | (simp only [Ad]; done) | (simp only [Ad]; omega)) only [↓Ai, Ae, Ag, Ah, eq_self, Nat.reduceEqDiff, ↓reduceIte, Nat.reduceLeDiff, ↓Aj]
     exact Ali.no hno (.inr rfl)
    ·have hl := AEQ b.toNat hb hd
     simp -dsimp (disch := first | assumption | omega | (simp only [Ad]; done) | (simp only [Ad]; omega)) only [↓Ai, Ae, Ag, Ah, eq_self, Nat.reduceEqDiff, ↓reduceIte, ↓AA, ↓AB, ↓A8, hg, ↓AZ, ↓AY, h95, ↓Ba, ↓Bc]
     by_cases c48 : 48 ≤ b.toNat
     ·have c57 : ¬ b.toNat ≤ 57 := by omega
      simp -dsimp (disch := first | assumption | omega | (simp only [Ad]; done) | (simp only [Ad]; omega)) only [↓Ai, Ae, Ag, Ah, eq_self, Nat.reduceEqDiff, ↓reduceIte, ↓Az, ↓Be]
      refine (Zt b).calls rfl fun r hr => ?_
      subst hr
      have hlw := Zt b
      generalize b.toNat ||| 32 = x at *
      by_cases c97 : 97 ≤ x
      ·simp -dsimp (disch := first | assumption | omega | (simp only [Ad]; done) | (simp only [Ad]; omega)) only [↓Ai, Ae, Ag, Ah, eq_self, Nat.reduceEqDiff, ↓reduceIte]
       refine hlw.calls rfl fun r hr => ?_
       subst hr
       by_cases c122 : x ≤ 122
       ·have h10 := hl c97 c122
        have hmod : (x - 97 + 10) % 256 = x - 97 + 10 := Nat.mod_eq_of_lt (by omega)
        simp -dsimp (disch := first | assumption | omega | (simp only [Ad]; done) | (simp only [Ad]; omega)) only [↓Ai, Ae, Ag, Ah, eq_self, Nat.reduceEqDiff, ↓reduceIte]
        refine hlw.calls rfl fun r hr => ?_
        subst hr
        simp -dsimp (disch := first | assumption | omega | (simp only [Ad]; done) | (simp only [Ad]; omega)) only [↓Ai, Ae, Ag, Ah, eq_self, Nat.reduceEqDiff, ↓reduceIte, Nat.reduceLeDiff, Zd, Af8, hmod, ↓A7, hw10, ↓Aj]
        exact Ali.no hno (.inr rfl)
       ·simp -dsimp (disch := first | assumption | omega | (simp only [Ad]; done) | (simp only [Ad]; omega)) only [↓Ai, Ae, Ag, Ah, eq_self, Nat.reduceEqDiff, ↓reduceIte, ↓Aj]
        exact Ali.no hno (.inr rfl)
      ·simp -dsimp (disch := first | assumption | omega | (simp only [Ad]; done) | (simp only [Ad]; omega)) only [↓Ai, Ae, Ag, Ah, eq_self, Nat.reduceEqDiff, ↓reduceIte, ↓Aj]
       exact Ali.no hno (.inr rfl)
     ·simp -dsimp (disch := first | assumption | omega | (simp only [Ad]; done) | (simp only [Ad]; omega)) only [↓Ai, Ae, Ag, Ah, eq_self, Nat.reduceEqDiff, ↓reduceIte, ↓Az, ↓Be]
      refine (Zt b).calls rfl fun r hr => ?_
      subst hr
      have hlw := Zt b
      generalize b.toNat ||| 32 = x at *
      by_cases c97 : 97 ≤ x
      ·simp -dsimp (disch := first | assumption | omega | (simp only [Ad]; done) | (simp only [Ad]; omega)) only [↓Ai, Ae, Ag, Ah, eq_self, Nat.reduceEqDiff, ↓reduceIte]
       refine hlw.calls rfl fun r hr => ?_
       subst hr
       by_cases c122 : x ≤ 122
       ·have h10 := hl c97 c122
        have hmod : (x - 97 + 10) % 256 = x - 97 + 10 := Nat.mod_eq_of_lt (by omega)
        simp -dsimp (disch := first | assumption | omega | (simp only [Ad]; done) | (simp only [Ad]; omega)) only [↓Ai, Ae, Ag, Ah, eq_self, Nat.reduceEqDiff, ↓reduceIte]
        refine hlw.calls rfl fun r hr => ?_
        subst hr
        simp -dsimp (disch := first | assumption | omega | (simp only [Ad]; done) | (simp only [Ad]; omega)) only [↓Ai, Ae, Ag, Ah, eq_self, Nat.reduceEqDiff, ↓reduceIte, Nat.reduceLeDiff, Zd, Af8, hmod, ↓A7, hw10, ↓Aj]
        exact Ali.no hno (.inr rfl)
       ·simp -dsimp (disch := first | assumption | omega | (simp only [Ad]; done) | (simp only [Ad]; omega)) only [↓Ai, Ae, Ag, Ah, eq_self, Nat.reduceEqDiff, ↓reduceIte, ↓Aj]
        exact Ali.no hno (.inr rfl)
      ·simp -dsimp (disch := first | assumption | omega | (simp only [Ad]; done) | (simp only [Ad]; omega)) only [↓Ai, Ae, Ag, Ah, eq_self, Nat.reduceEqDiff, ↓reduceIte, ↓Aj]
       exact Ali.no hno (.inr rfl)
  ·have hi2 : i = s.length := by omega
   subst hi2
   rw [List.take_length] at hn hall
   have hyes : pU s = some n := by unfold pU; rw [if_pos ⟨h0, hall, by rw [← hn]; exact hnl⟩, hn]
   simp -dsimp (disch := first | assumption | omega | (simp only [Ad]; done) | (simp only [Ad]; omega)) only [↓Ai, Ae, Ag, Ah, eq_self, Nat.reduceEqDiff, ↓reduceIte, ↓AA, ↓AB, ↓EE, ↓Aj]
   exact Ali.yes hyes
end Go.Proofs.YtliaddbbmnfioaaGreatDoor


namespace Go.Proofs.YtliaddbbmnfioaaGreatDoor
open Go.RowKit
variable [Bf]
set_option linter.unusedSectionVars false
set_option linter.unusedVariables false
set_option linter.unusedSimpArgs false
class Au [Bf] : Prop where
 k : ∃ t a, KI 4 = some (.one (.iface t (.pointer (some a))))
class AO [Bf] : Prop where
 k : ∃ t a, KI 5 = some (.one (.iface t (.pointer (some a))))
theorem AlW {F : Nat → Prop} {w : World} (h : IZ F w) {g : Nat} {v : Value} (e : KI g = some (.one v)) : w.cell? ⟨g, 0, none⟩ = some v := by
 have := h.at e 0 v rfl
 simpa using this
variable [Au] [AO]
theorem AvO (fn s : List UInt8) (base bits : Int) (hs : s.length ≤ 1000000) (c : Nat) (hc : c = 1 ∨ c = 2) : Bj Tryz.prog 124 [ts fn, ts s, i64 base, i64 bits, .ifc 228 (i64 (c : Int))] (fun r => r = .ifc 229 .any) := by
 intro β F w vs hF hv
 obtain ⟨v1, us, rfl, h1, hv⟩ := BU.cons.1 hv
 obtain ⟨v2, us, rfl, h2, hv⟩ := BU.cons.1 hv
 obtain ⟨v3, us, rfl, h3, hv⟩ := BU.cons.1 hv
 obtain ⟨v4, us, rfl, h4, hv⟩ := BU.cons.1 hv
 obtain ⟨v5, us, rfl, h5, hv⟩ := BU.cons.1 hv
 rw [BU.nil] at hv; subst hv
 obtain rfl := Rep.val.1 (Or.inl h1 : Rep _ _ _ _)
 obtain rfl := Rep.val.1 (Or.inl h2 : Rep _ _ _ _)
 obtain rfl := Rep.val.1 (Or.inl h3 : Rep _ _ _ _)
 obtain rfl := Rep.val.1 (Or.inl h4 : Rep _ _ _ _)
 have e5 : v5 = .iface 228 (.int .i64 (c : Int)) := by
  rcases h5 with h5 | h5 | ⟨us, h5, rfl⟩
  ·cases h5
  ·cases h5
  ·rw [Am] at h5
   obtain ⟨u, rfl, vs, h6, rfl⟩ := h5
   rw [Am] at h6
   rw [h6.1]; rfl
 subst e5
 have hsz : (str s).size ≤ 281474976710656 := by simp [str, ByteArray.size]; omega
 have fin : ∀ e w', (∃ N, e = Ending.returned (.iface 229 (.pointer (some ⟨N, 0, none⟩))) ∧ Below w.heap.size w w') → ∃ v x F', e = .returned v ∧ x = .ifc 229 .any ∧ Rep ⟨β, [], F'⟩ w' x v ∧ YU F w F' w' := by
  rintro e w' ⟨N, rfl, hb⟩
  refine ⟨_, _, F, rfl, rfl, Rep.of_cells (us := [.iface 229 (.pointer (some ⟨N, 0, none⟩))]) ?_, ⟨hb.os, hb.tape, hb.output, hb.size, hb.block, fun _ h => h, fun _ _ h => h, fun b hb' => Nat.lt_of_lt_of_le (hF.1 b hb') hb.size⟩⟩
  rw [Am]
  refine ⟨_, rfl, [.pointer (some ⟨N, 0, none⟩)], ?_, rfl⟩
  rw [Am]
  exact ⟨_, rfl, rfl⟩
 rcases hc with rfl | rfl
 ·obtain ⟨t, a, hk⟩ := AO.k
  refine (Tryz.strconv_toError_range (str fn) (str s) base bits _ w hsz (AlW hF.2 hk) (.inr ⟨_, _, rfl⟩)).mono ?_
  rintro e w' ⟨N, rfl, _, _, hb⟩
  exact fin _ _ ⟨N, rfl, hb⟩
 ·obtain ⟨t, a, hk⟩ := Au.k
  refine (Tryz.strconv_toError_syntax (str fn) (str s) base bits _ w hsz (AlW hF.2 hk) (.inr ⟨_, _, rfl⟩)).mono ?_
  rintro e w' ⟨N, rfl, _, _, hb⟩
  exact fin _ _ ⟨N, rfl, hb⟩
theorem Aom (s : List UInt8) (hs : s.length ≤ 1000000) : Bj Tryz.prog 89 [ts s, i64 ((10 : Nat) : Int), i64 ((62 : Nat) : Int)] (fun r => (∀ n, pU s = some n → r = .tup [.val (.int .u64 (n : Int)), .val .nilIface]) ∧ (pU s = none → ∃ m : Nat, r = .tup [.val (.int .u64 (m : Int)), .ifc 229 .any])) := by
 refine Aw.toPureV (QR (by simp) ?_)
 simp -dsimp (disch := first | assumption | omega | (simp only [Ad]; done) | (simp only [Ad]; omega)) only [↓Ai, Ae, Ag, Ah, eq_self, Nat.reduceEqDiff, ↓reduceIte, Nat.reduceAdd, reduceCtorEq, ↓Cc]
 refine (AAm s hs).calls rfl fun r hr => ?_
 cases hp : pU s with
 | some n =>
  rw [hr.1 n hp]
  simp -dsimp (disch := first | assumption | omega | (simp only [Ad]; done) | (simp only [Ad]; omega)) only [↓Ai, Ae, Ag, Ah, eq_self, Nat.reduceEqDiff, ↓reduceIte, reduceCtorEq, ↓Cc]
  exact ⟨fun m hm => (by cases hm; rfl), fun h => (by cases h)⟩
 | none =>
  obtain ⟨m, c, hc, rfl⟩ := hr.2 hp
  simp -dsimp (disch := first | assumption | omega | (simp only [Ad]; done) | (simp only [Ad]; omega)) only [↓Ai, Ae, Ag, Ah, eq_self, Nat.reduceEqDiff, ↓reduceIte, reduceCtorEq, ↓Cc]
  refine (AvO _ s _ _ hs c hc).calls rfl fun r hr => ?_
  subst hr
  simp -dsimp (disch := first | assumption | omega | (simp only [Ad]; done) | (simp only [Ad]; omega)) only [↓Ai, Ae, Ag, Ah, eq_self, forall_const, Nat.reduceEqDiff, ↓reduceIte, reduceCtorEq, ↓Cc]
  exact ⟨fun n h => h.elim, m, rfl⟩
end Go.Proofs.YtliaddbbmnfioaaGreatDoor


namespace Go.Proofs.YtliaddbbmnfioaaGreatDoor
open Go.RowKit
variable [Bf]
set_option linter.unusedSectionVars false
set_option linter.unusedVariables false

set_option maxHeartbeats 2000000 in
set_option maxRecDepth 100000 in
theorem Af7 (a : Addr) (n c : Nat) (xs : List Int) (cv : Int) (w : World) (hx : xs.length = n) (hc : ∀ i, i < n → w.cell? (a.add i) = some (.int .u8 (xs.getD i 0))) :
  Calls Tryz.prog 146 #[.slice (some a) n c, .int .u8 cv] w fun e w' => e = .returned (.int .i64 (Lib.indexByte (Lib.bytesOf xs) cv.toNat.toUInt8)) ∧ w' = w := by
 go_enter Tryz.func146, Tryz.ntmps146
 go_wp2
 rw [run_callFunc_extern Tryz.func171 (by kernel_rfl) (by kernel_rfl) (by kernel_rfl) (e := Extern.BytealgIndexByte.indexByte) (by kernel_rfl), Lib.run_indexByteAt w a n c xs hx hc cv]
 simp only [Result.andThen]
 rw [Oper.upon_value]
 go_wp2
 go_ret
 exact ⟨rfl, rfl⟩
set_option maxHeartbeats 2000000 in
set_option maxRecDepth 100000 in
theorem Aj0 (n c : Nat) (cv : Int) (w : World) :
  Calls Tryz.prog 146 #[.slice none n c, .int .u8 cv] w fun e w' => e = .returned (.int .i64 (-1)) ∧ w' = w := by
 go_enter Tryz.func146, Tryz.ntmps146
 go_wp2
 rw [run_callFunc_extern Tryz.func171 (by kernel_rfl) (by kernel_rfl) (by kernel_rfl) (e := Extern.BytealgIndexByte.indexByte) (by kernel_rfl), Lib.run_indexByteNil w n c cv]
 simp only [Result.andThen]
 rw [Oper.upon_value]
 go_wp2
 go_ret
 exact ⟨rfl, rfl⟩

theorem Bj.indexByte (l : List UInt8) (c : UInt8) : Bj Tryz.prog 146 [slB l, by8 c] (fun x => x = .val (.int .i64 (Lib.indexByte l c))) := by
 intro β F w vs hF hv
 obtain ⟨v, us, rfl, h1, hv⟩ := BU.cons.1 hv
 obtain ⟨v2, us, rfl, h2, hv⟩ := BU.cons.1 hv
 rw [BU.nil] at hv; subst hv
 have h2' : v2 = .int .u8 c.toNat := by
  have := Rep.val.1 (Or.inl h2 : Rep _ _ _ _); exact this
 subst h2'
 have hcv : ((c.toNat : Int)).toNat.toUInt8 = c := by
  rw [Int.toNat_natCast]; simp
 have fin : ∀ e w', (e = Ending.returned (.int .i64 (Lib.indexByte l c)) ∧ w' = w) → ∃ v x F', e = .returned v ∧ x = .val (.int .i64 (Lib.indexByte l c)) ∧ Rep ⟨β, [], F'⟩ w' x v ∧ YU F w F' w' := by
  rintro e w' ⟨rfl, rfl⟩
  exact ⟨_, _, F, rfl, rfl, Rep.of_val, ⟨rfl, rfl, rfl, Nat.le_refl _, fun _ _ => rfl, fun _ h => h, fun _ _ h => h, hF.1⟩⟩
 have hr0 : Rep ⟨β, [], F⟩ w (slB l) v := Or.inl h1
 have hr := hr0.sl
 obtain ⟨hw, hr⟩ := hr
 rcases hr with ⟨he, ad, cap, rfl, _⟩ | ⟨b, off, cap, us, rfl, h3, h4, h5, h6, h7⟩
 ·have hl : l = [] := by simpa using he
  subst hl
  cases ad with
  | none => exact (Aj0 0 cap _ w).mono fun e w' h => fin e w' h
  | some ad =>
   refine (Af7 ad 0 cap [] c.toNat w rfl (fun i hi => by omega)).mono fun e w' h => fin e w' ?_
   exact h
 ·have hb := OV (fun y hy => by obtain ⟨b, _, rfl⟩ := List.mem_map.1 hy; exact Aem b) h6
  rw [Abh] at hb
  refine (Af7 ⟨b, off, none⟩ (l.map by8).length cap (l.map fun b : UInt8 => (b.toNat : Int)) c.toNat w (by simp) (fun i hi => ?_)).mono fun e w' h => fin e w' ?_
  ·rw [Es]
   have hi' : i < l.length := by simpa using hi
   refine h7 i _ ?_
   rw [hb, List.getElem?_map, List.getElem?_eq_getElem hi', List.getD_eq_getElem?_getD, List.getElem?_map, List.getElem?_eq_getElem hi']
   rfl
  ·rw [hcv] at h
   have : Lib.bytesOf (l.map fun b : UInt8 => (b.toNat : Int)) = l := by
    simp [Lib.bytesOf, List.map_map, Function.comp_def]
   rw [this] at h; exact h
end Go.Proofs.YtliaddbbmnfioaaGreatDoor


namespace Go.Proofs.YtliaddbbmnfioaaGreatDoor
open Go.RowKit
variable [Bf]
set_option linter.unusedSectionVars false
set_option linter.unusedVariables false
set_option linter.unusedSimpArgs false
def U5 (c : UInt8) : List UInt8 → Option Nat
 | [] => none
 | b :: l => if b = c then some 0 else (U5 c l).map (· + 1)
theorem Abb {c : UInt8} : ∀ {l : List UInt8} {i : Nat}, U5 c l = some i → i < l.length ∧ l[i]? = some c ∧ ¬ c ∈ l.take i
 | [], i, h => by cases h
 | b :: l, i, h => by
  rw [U5] at h
  split at h
  ·rename_i e; cases h; exact ⟨by simp, by simp [e], by simp⟩
  ·rename_i e
   obtain ⟨j, hj, rfl⟩ := Option.map_eq_some_iff.1 h
   obtain ⟨h1, h2, h3⟩ := Abb hj
   exact ⟨by simp; omega, by simpa using h2, by simp [h3, Ne.symm e]⟩
theorem AiJ {c : UInt8} : ∀ {l : List UInt8}, U5 c l = none → ¬ c ∈ l
 | [], h => by simp
 | b :: l, h => by
  rw [U5] at h
  split at h
  ·cases h
  ·rename_i e
   have := AiJ (Option.map_eq_none_iff.1 h)
   simp [this, Ne.symm e]
theorem Ajy (c : UInt8) : ∀ l : List UInt8, Lib.indexByte l c = (match U5 c l with | some i => (i : Int) | none => -1) := by
 intro l
 induction l with
 | nil => rfl
 | cons b l ih =>
  rw [Lib.indexByte, U5]
  by_cases e : b = c
  ·simp [e]
  ·rw [if_neg (by simpa using e), if_neg e, ih]
   cases hc : U5 c l with
   | none => simp
   | some i =>
    have : ¬ ((i : Int) == -1) = true := by simp
    simp only [Option.map_some]
    rw [if_neg this]; rfl
theorem ABr (s : List UInt8) (c : UInt8) (hs : s.length ≤ 1000000) : Bj Tryz.prog 122 [slB s, slB [c]] (fun r => r = i64 (Lib.indexByte s c)) := by
 refine Aw.toPureV (Ah4 (by simp) ?_)
 simp -dsimp (disch := first | assumption | omega | (simp only [Ad]; done) | (simp only [Ad]; omega)) only [↓Ai, Ae, Ag, Ah, eq_self, Nat.reduceEqDiff, ↓reduceIte, Nat.reduceAdd, reduceCtorEq, ↓Ad3]
 refine (Bj.indexByte s c).calls rfl fun r hr => ?_
 subst hr
 simp -dsimp (disch := first | assumption | omega | (simp only [Ad]; done) | (simp only [Ad]; omega)) only [↓Ai, Ae, Ag, Ah, eq_self, ↓reduceIte, ↓Ad3]
section
variable [Ak] [Au] [AO]
def RZ (s : List UInt8) : Option Nat := match pU s with
 | some n => if Lib.decDigits n = s then some n else none
 | none => none
theorem AsI (s : List UInt8) (hs : s.length ≤ 1000000) : Bj Tryz.prog 137 [ts s] (fun r => (∀ n, RZ s = some n → r = .tup [i64 (n : Int), tb true]) ∧ (RZ s = none → ∃ z, r = .tup [i64 z, tb false])) := by
 refine Aw.toPureV (AfU (by simp) ?_)
 simp -dsimp (disch := first | assumption | omega | (simp only [Ad]; done) | (simp only [Ad]; omega)) only [↓Ai, Ae, Ag, Ah, eq_self, ↓reduceIte, reduceCtorEq, ↓QE]
 refine (Aom s hs).calls rfl fun r hr => ?_
 cases hp : pU s with
 | none =>
  obtain ⟨m, rfl⟩ := hr.2 hp
  have hd : RZ s = none := by unfold RZ; rw [hp]
  simp -dsimp (disch := first | assumption | omega | (simp only [Ad]; done) | (simp only [Ad]; omega)) only [↓Ai, Ae, Ag, Ah, eq_self, Nat.reduceEqDiff, ↓reduceIte, reduceCtorEq, ↓QE]
  rw [hd]
  exact ⟨fun n h => (by cases h), fun _ => ⟨_, rfl⟩⟩
 | some n =>
  rw [hr.1 n hp]
  have hn : n < 4611686018427387904 := by
   unfold pU at hp
   split at hp
   ·rename_i h; cases hp; exact h.2.2
   ·cases hp
  have hw : IntKind.i64.wrap (n : Int) = (n : Int) := Dp (by omega) (by omega)
  simp -dsimp (disch := first | assumption | omega | (simp only [Ad]; done) | (simp only [Ad]; omega)) only [↓Ai, Ae, Ag, Ah, eq_self, Nat.reduceEqDiff, ↓reduceIte, reduceCtorEq, hw]
  refine (AmL n (by omega)).calls rfl fun r hr => ?_
  subst hr
  simp -dsimp (disch := first | assumption | omega | (simp only [Ad]; done) | (simp only [Ad]; omega)) only [↓Ai, Ae, Ag, Ah, eq_self, Nat.reduceEqDiff, ↓reduceIte, reduceCtorEq, ↓QE]
  unfold RZ
  rw [hp]
  simp only
  by_cases hs2 : Lib.decDigits n = s
  ·rw [if_pos hs2, decide_eq_true hs2]
   exact ⟨fun m h => (by cases h; rfl), fun h => (by cases h)⟩
  ·rw [if_neg hs2, decide_eq_false hs2]
   exact ⟨fun m h => (by cases h), fun _ => ⟨_, rfl⟩⟩
end
end Go.Proofs.YtliaddbbmnfioaaGreatDoor


namespace Go.Proofs.YtliaddbbmnfioaaGreatDoor
open Go.RowKit
variable [Bf]
set_option linter.unusedSectionVars false
set_option linter.unusedVariables false
set_option linter.unusedSimpArgs false

theorem AaC {k : Nat} (hk : k < 10) : GZ (UInt8.ofNat (48 + k)) = true ∧ (UInt8.ofNat (48 + k)).toNat - 48 = k := by
 have : (UInt8.ofNat (48 + k)).toNat = 48 + k := by rw [UInt8.toNat_ofNat']; omega
 unfold GZ
 rw [this]
 exact ⟨by simp; omega, by omega⟩
theorem Ang (n : Nat) (c : UInt8) : Vm n [c] = n * 10 + (c.toNat - 48) := rfl
theorem Akh : ∀ n : Nat, (Lib.decDigits n).all GZ = true ∧ Vm 0 (Lib.decDigits n) = n := by
 intro n
 induction n using Nat.strongRecOn with
 | _ n ih =>
  by_cases h : n < 10
  ·obtain ⟨h1, h2⟩ := AaC h
   rw [Lib.decDigits_one h, Ang, h2, List.all_cons, h1]
   exact ⟨rfl, by omega⟩
  ·obtain ⟨h1, h2⟩ := ih (n / 10) (by omega)
   obtain ⟨h3, h4⟩ := AaC (k := n % 10) (by omega)
   rw [Lib.decDigits.eq_1 n, dif_neg h, List.all_append, TC, Ang, h1, h2, h4, List.all_cons, h3]
   exact ⟨rfl, by omega⟩
theorem AnE (n : Nat) : Lib.decDigits n ≠ [] := by
 rw [Lib.decDigits.eq_1]
 split <;> simp
theorem AoA {n : Nat} (h : n < 4611686018427387904) : RZ (Lib.decDigits n) = some n := by
 obtain ⟨h1, h2⟩ := Akh n
 have : pU (Lib.decDigits n) = some n := by
  unfold pU
  rw [if_pos ⟨AnE n, h1, by rw [h2]; exact h⟩, h2]
 unfold RZ
 rw [this]
 simp
theorem Ahf {c : UInt8} : ∀ {l m : List UInt8}, ¬ c ∈ l → U5 c (l ++ c :: m) = some l.length
 | [], m, _ => by simp [U5]
 | b :: l, m, h => by
  rw [List.cons_append, U5, if_neg (fun e => h (by simp [e])), Ahf (fun hm => h (List.mem_cons_of_mem _ hm))]
  simp
end Go.Proofs.YtliaddbbmnfioaaGreatDoor

