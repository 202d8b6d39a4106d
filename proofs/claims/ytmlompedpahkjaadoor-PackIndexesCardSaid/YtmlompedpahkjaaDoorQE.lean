/- What the proof of PackIndexesCard stands on (texts merged; names shortened by a program): part 5. -/
import Derived.Test.YtmlompedpahkjaaDoorQD
import Derived.ProofKit
import Derived.OpenShut
import Derived.ShutString
import Derived.ChangeOld
import Derived.Below
import Derived.Carry
import Derived.SizedLaws
import Derived.Lib.LaidTab
import Derived.LaidHandle
import Derived.Sort.Walk0
import Derived.Lib.Bytealg
import Derived.Shelf.SlSortCmp.NoneTotal
import Derived.Ground.SlsfProg
import Derived.Test.YtmlompedpahkjaaDoorProg
import Derived.WalkKit
import Derived.Deep.RegionWith
import Derived.Lib.BytesEntry
import Derived.Shelf.Bytes.SlIndexAt
import Derived.KernelRfl
import Derived.WalkSpells
import Derived.WalkLawsBesides
import Derived.Lib.Hide
import Derived.Deep.QuietTactic
import Derived.BigQuiet
import Derived.Deep.OwnRows
import Derived.Laws.CopyOwn
import Derived.Laws.BitsAllLaws
namespace Go.Proofs.YtmlompedpahkjaaDoor
open Go.RowKit Go.WideShapes Go.ChangeShapes
variable [BA]
set_option linter.unusedSectionVars false
set_option linter.unusedVariables false
set_option linter.unusedSimpArgs false
set_option autoImplicit false

/-- All Bo that are there stay aS they are. -/
def came (w : World) : Ctx := ⟨fun _ _ => none, [], fun b => b < w.heap.size⟩
/-- All data of a type have a reading of this form. -/
def IB (P : Program) (t : TypeId) {α : Type} (f : α → TV) (ok : α → Prop) : Prop :=
 ∀ {H : Type} (enc : TypeId × Value → H) (w : World) (fuel : Nat) (cs : List Value) (d : DataW H) (ps : List MemPlace),
  DataW.trod enc P w 0 (fun _ => true) true fuel t cs = some (d, ps) → (d.weights P t).all (· ≤ reachBytes) = true → ∃ a, Ak (came w) w (f a) cs ∧ ok a

theorem Zt {α β : Type} {f : α → Option β} : ∀ {l : List α} {xs : List β}, l.mapM f = some xs → xs.length = l.length ∧ ∀ (i : Nat) a, l[i]? = some a → ∃ x, xs[i]? = some x ∧ f a = some x
 | [], xs, h => by simp at h; subst h; simp
 | a :: l, xs, h => by
  rw [List.mapM_cons] at h
  cases hf : f a with
  | none => rw [hf] at h; cases h
  | some y =>
   rw [hf] at h
   cases hl : l.mapM f with
   | none => rw [hl] at h; cases h
   | some ys =>
    rw [hl] at h
    have e : xs = y :: ys := by simpa using h.symm
    subst e
    obtain ⟨h1, h2⟩ := Zt hl
    refine ⟨by simp [h1], fun i b hb => ?_⟩
    cases i with
    | zero => simp at hb; subst hb; exact ⟨y, by simp, hf⟩
    | succ i => simpa using h2 i b (by simpa using hb)
theorem PO {β : Type} {f : Nat → Option β} {n : Nat} {xs : List β} (h : (List.range n).mapM f = some xs) : xs.length = n ∧ ∀ i, i < n → ∃ x, xs[i]? = some x ∧ f i = some x := by
 obtain ⟨h1, h2⟩ := Zt h
 exact ⟨by simpa using h1, fun i hi => h2 i i (by simp [hi])⟩

section
variable {P : Program} {t e : TypeId}
theorem U3 {H : Type} {enc : TypeId × Value → H} {w : World} {fuel : Nat} {cs : List Value} {x : DataW H × List MemPlace} (h : DataW.trod enc P w 0 (fun _ => true) true fuel t cs = some x) : ∃ n, fuel = n + 1 := by
 cases fuel with
 | zero => simp [DataW.trod] at h
 | succ n => exact ⟨n, rfl⟩

theorem TU {k : IntKind} (ht : P.underlying t = some (.int k)) : IB P t (fun n => .val (.int k n)) (fun n => (Lit.int k n).wf = true) := by
 intro H enc w fuel cs d ps h _
 obtain ⟨n, rfl⟩ := U3 h
 unfold DataW.trod at h; rw [ht] at h
 split at h <;> rename_i h1 <;> try (simp at h1; done)
 all_goals try (cases h; done)
 all_goals try (simp only [Option.some.injEq, TypeDesc.int.injEq] at h1)
 all_goals first
  | (subst h1; split at h; (rename_i hc; obtain ⟨rfl, hw⟩ := hc; cases h; exact ⟨_, by rw [Ak]; exact ⟨rfl, rfl⟩, hw⟩); cases h)
  | (simp at h1; done)
  | (simp at h; done)
end

theorem KI {H : Type} {P : Program} {e : TypeId} {d : DataW H} {n : Nat} (hn : n ∈ d.weights P e) : ∀ {ds : List (DataW H)}, d ∈ ds → n ∈ DataW.weightsAll P e ds
 | d0 :: ds, h => by
  simp only [DataW.weightsAll, List.mem_append]
  rcases List.mem_cons.1 h with rfl | h
  ·exact Or.inl hn
  ·exact Or.inr (KI hn h)
theorem FU {l m : List Nat} (h : m.all (· ≤ reachBytes) = true) (hs : ∀ n ∈ l, n ∈ m) : l.all (· ≤ reachBytes) = true := List.all_eq_true.2 fun n hn => List.all_eq_true.1 h n (hs n hn)

theorem Ak8 (a : Addr) (i j : Nat) : (a.add i).add j = a.add (i + j) := by
 unfold Addr.add
 by_cases h1 : i = 0 <;> by_cases h2 : j = 0 <;> simp [h1, h2, Nat.add_assoc]
theorem Af8 (b off i : Nat) : (⟨b, off, none⟩ : Addr).add i = ⟨b, off + i, none⟩ := by
 unfold Addr.add
 by_cases h1 : i = 0 <;> simp [h1]
theorem AcI {w : World} {a : Addr} {n : Nat} {us : List Value} (h : w.cells? 0 a n = some us) : us.length = n ∧ ∀ i, i < n → ∃ u, us[i]? = some u ∧ w.cell? (a.add i) = some u := by
 unfold World.cells? at h
 rw [if_pos (Nat.zero_le _)] at h
 exact PO h

/-- Elements that lie one behind the other. -/
theorem Y0 {α : Type} {f : α → TV} {ok : α → Prop} {k : Nat} (hw : ∀ a, ok a → Aw (f a) = k) {w : World} {b off : Nat} : ∀ (n i0 : Nat), (∀ i, i < n → ∃ us a, Ak (came w) w (f a) us ∧ ok a ∧ us.length = k ∧ Cf w b (off + (i0 + i) * k) us) →
  ∃ (l : List α) (us : List Value), l.length = n ∧ (∀ a ∈ l, ok a) ∧ Aj (came w) w (l.map f) us ∧ us.length = n * k ∧ Cf w b (off + i0 * k) us
 | 0, i0, _ => ⟨[], [], rfl, by simp, by rw [List.map_nil, Aj], by simp, fun j u h => by simp at h⟩
 | n + 1, i0, h => by
  obtain ⟨us, a, h1, h2, h3, h4⟩ := h 0 (by omega)
  obtain ⟨l, vs, k1, k2, k3, k4, k5⟩ := Y0 hw n (i0 + 1) (fun i hi => by
   obtain ⟨us, a, h1, h2, h3, h4⟩ := h (i + 1) (by omega)
   exact ⟨us, a, h1, h2, h3, by rw [show i0 + 1 + i = i0 + (i + 1) from by omega]; exact h4⟩)
  refine ⟨a :: l, us ++ vs, by simp [k1], fun c hc => ?_, ?_, ?_, ?_⟩
  ·rcases List.mem_cons.1 hc with rfl | hc
   ·exact h2
   ·exact k2 c hc
  ·rw [List.map_cons, Aj]; exact ⟨us, vs, rfl, h1, k3⟩
  ·rw [List.length_append, h3, k4, Nat.succ_mul, Nat.add_comm]
  ·intro j u hj
   by_cases hjk : j < k
   ·rw [List.getElem?_append_left (by omega)] at hj
    have := h4 j u hj
    rwa [Nat.add_zero] at this
   ·rw [List.getElem?_append_right (by omega), h3] at hj
    have := k5 (j - k) u hj
    rw [show off + (i0 + 1) * k + (j - k) = off + i0 * k + j from by rw [Nat.succ_mul]; omega] at this
    exact this

section
variable {P : Program} {t e : TypeId} {α : Type} {f : α → TV} {ok : α → Prop} {k B : Nat}
theorem Uu (ht : P.underlying t = some (.slice e)) (hk : P.cellsOf e = k) (hB : P.bytesOf e = B) (hc : IB P e f ok) (hw : ∀ a, ok a → Aw (f a) = k) (h0 : k ≠ 0) :
  IB P t (fun l : List α => .sl k (l.map f)) (fun l => (∀ a ∈ l, ok a) ∧ l.length * B ≤ 140737488351232 ∧ l.length ≤ 9223372036854775807) := by
 intro H enc w fuel cs d ps h hwt
 obtain ⟨n, rfl⟩ := U3 h
 unfold DataW.trod at h; rw [ht] at h
 split at h <;> rename_i h1 <;> try (simp at h1; done)
 all_goals first
  | (simp at h; done)
  | skip
 ·cases h
  refine ⟨[], ?_, by simp, by simp, by simp⟩
  rw [Ak]; exact ⟨by simp, .inl ⟨rfl, none, 0, rfl, by omega⟩⟩
 ·rename_i a len cap
  simp only [Option.some.injEq, TypeDesc.slice.injEq] at h1
  subst h1
  split at h
  ·rename_i hcond
   obtain ⟨-, hlc, hcm⟩ := hcond
   rw [Option.bind_eq_some_iff] at h
   obtain ⟨elems, he, h⟩ := h
   rw [if_pos rfl, Option.map_eq_some_iff] at h
   obtain ⟨rest, hr, h⟩ := h
   simp only [Prod.mk.injEq] at h
   obtain ⟨rfl, rfl⟩ := h
   obtain ⟨e1, e2⟩ := PO he
   obtain ⟨r1, _⟩ := PO hr
   unfold maxLen at hcm
   simp only [DataW.weights, ht, List.all_cons, Bool.and_eq_true, decide_eq_true_eq, reachBytes, List.length_map, e1, r1, hB] at hwt
   have hcapB : cap * B ≤ 140737488351232 := by have := of_decide_eq_true hwt.1; rwa [Nat.add_sub_cancel' hlc] at this
   have hlen : len * B ≤ 140737488351232 := Nat.le_trans (Nat.mul_le_mul_right _ hlc) hcapB
   have hwe : (DataW.weightsAll P e (elems.map (·.1))).all (· ≤ reachBytes) = true := FU (m := DataW.weightsAll P e (elems.map (·.1)) ++ DataW.weightsAll P e (rest.map (·.1))) hwt.2 (fun n hn => List.mem_append_left _ hn)
   obtain ⟨b, off, spot⟩ := a
   have key : ∀ i, i < len → ∃ us a, Ak (came w) w (f a) us ∧ ok a ∧ us.length = k ∧ (∀ j u, us[j]? = some u → w.cell? ((⟨b, off, spot⟩ : Addr).add (i * k + j)) = some u) := by
    intro i hi
    obtain ⟨x, hx, hxe⟩ := e2 i hi
    rw [Option.bind_eq_some_iff] at hxe
    obtain ⟨us, hus, htr⟩ := hxe
    rw [hk] at hus
    obtain ⟨c1, c2⟩ := AcI hus
    obtain ⟨a, ha, hok⟩ := hc enc w n us x.1 x.2 htr (FU hwe fun m hm => KI hm (List.mem_map.2 ⟨x, List.mem_of_getElem? hx, rfl⟩))
    refine ⟨us, a, ha, hok, c1, fun j u hj => ?_⟩
    have hjk : j < k := by rw [← c1]; exact (List.getElem?_eq_some_iff.1 hj).1
    obtain ⟨u', hu', hcu⟩ := c2 j hjk
    rw [hj] at hu'; cases hu'
    rw [Ak8] at hcu
    exact hcu
   by_cases hl0 : len = 0
   ·subst hl0
    refine ⟨[], ?_, by simp, by simp, by simp⟩
    rw [Ak]; exact ⟨by simp, .inl ⟨rfl, _, cap, rfl, hcm⟩⟩
   ·have hsp : spot = none := by
     obtain ⟨us, a, _, _, c1, c2⟩ := key 0 (by omega)
     have hu : us[0]? = some us[0] := List.getElem?_eq_getElem (by omega)
     have := c2 0 _ hu
     simpa [Addr.add] using World.cell?_spot this
    subst hsp
    obtain ⟨l, us, l1, l2, l3, l4, l5⟩ := Y0 (f := f) (ok := ok) hw (w := w) (b := b) (off := off) len 0 (fun i hi => by
     obtain ⟨us, a, h1, h2, h3, h4⟩ := key i hi
     refine ⟨us, a, h1, h2, h3, fun j u hj => ?_⟩
     have := h4 j u hj
     rw [Af8] at this
     rw [Nat.zero_add, Nat.add_assoc]; exact this)
    refine ⟨l, ?_, l2, by rw [l1]; exact hlen, by omega⟩
    rw [Ak]
    refine ⟨fun x hx => ?_, .inr ⟨b, off, cap, us, by rw [List.length_map, l1], by rw [List.length_map, l1]; exact hlc, hcm, ?_, l3, by simpa using l5⟩⟩
    ·obtain ⟨a, ha, rfl⟩ := List.mem_map.1 hx; exact hw a (l2 a ha)
    ·have hus : 0 < us.length := by rw [l4]; exact Nat.mul_pos (by omega) (by omega)
     exact Ajq (l5 0 us[0] (List.getElem?_eq_getElem hus))
  ·cases h
end
section
variable {P : Program} {t e : TypeId} {α : Type} {f : α → TV} {ok : α → Prop} {k : Nat}
theorem Ii {β : Type} {g : β → TV} {ok' : β → Prop} (h : IB P t f ok) (hm : ∀ a, ok a → ∃ b, f a = g b ∧ ok' b) : IB P t g ok' := by
 intro H enc w fuel cs d ps h1 h2
 obtain ⟨a, h3, h4⟩ := h enc w fuel cs d ps h1 h2
 obtain ⟨b, h5, h6⟩ := hm a h4
 exact ⟨b, by rw [← h5]; exact h3, h6⟩
theorem YP (ht : P.underlying t = some (.int .u8)) : IB P t by8 (fun _ => True) :=
 Ii (TU ht) fun n h => by
  have := bounds_u8 h
  refine ⟨UInt8.ofNat n.toNat, ?_, trivial⟩
  rw [by8, UInt8.toNat_ofNat', Nat.mod_eq_of_lt (by omega)]
  congr 2; omega
theorem AcA (ht : P.underlying t = some (.int .i64)) : IB P t i64 (fun n => -9223372036854775808 ≤ n ∧ n ≤ 9223372036854775807) :=
 Ii (TU ht) fun n h => ⟨n, rfl, by have := bounds_i64 h; omega⟩
/-- A slice of bytes. -/
theorem Zk (ht : P.underlying t = some (.slice e)) (he : P.underlying e = some (.int .u8)) (hk : P.cellsOf e = 1) (hB : P.bytesOf e = 1) : IB P t slB (fun l => l.length ≤ 140737488351232) :=
 Ii (Uu ht hk hB (YP he) (fun _ _ => rfl) (by omega)) fun l h => ⟨l, rfl, by have := h.2; omega⟩
theorem AkI {H : Type} {P : Program} {e : TypeId} {parts : List (DataW H)} (h : (DataW.weightsAll P e parts).all (· ≤ reachBytes) = true) {d : DataW H} (hd : d ∈ parts) : (d.weights P e).all (· ≤ reachBytes) = true :=
 FU h fun n hn => KI hn hd
/-- Elements cut out of a row. -/
theorem Aa7 {w : World} (hw : ∀ a, ok a → Aw (f a) = k) : ∀ (n i0 : Nat) (cs : List Value), cs.length = n * k → (∀ i, i < n → ∃ a, Ak (came w) w (f a) ((cs.drop (i * k)).take k) ∧ ok a) →
  ∃ l : List α, l.length = n ∧ (∀ a ∈ l, ok a) ∧ Aj (came w) w (l.map f) cs
 | 0, i0, cs, hl, _ => ⟨[], rfl, by simp, by rw [List.map_nil, Aj]; exact List.length_eq_zero_iff.1 (by simpa using hl)⟩
 | n + 1, i0, cs, hl, h => by
  obtain ⟨a, h1, h2⟩ := h 0 (by omega)
  rw [Nat.zero_mul, List.drop_zero] at h1
  rw [Nat.succ_mul] at hl
  obtain ⟨l, k1, k2, k3⟩ := Aa7 hw n 0 (cs.drop k) (by rw [List.length_drop]; omega) (fun i hi => by
   obtain ⟨a, h1, h2⟩ := h (i + 1) (by omega)
   exact ⟨a, by rw [List.drop_drop]; rw [Nat.succ_mul, Nat.add_comm] at h1; exact h1, h2⟩)
  refine ⟨a :: l, by simp [k1], fun c hc => ?_, ?_⟩
  ·rcases List.mem_cons.1 hc with rfl | hc
   ·exact h2
   ·exact k2 c hc
  ·rw [List.map_cons, Aj]
   exact ⟨cs.take k, cs.drop k, (List.take_append_drop k cs).symm, h1, k3⟩
theorem Y5 {n : Nat} (ht : P.underlying t = some (.array n e)) (hk : P.cellsOf e = k) (hn : P.cellsOf t = n * k) (hc : IB P e f ok) (hw : ∀ a, ok a → Aw (f a) = k) :
  IB P t (fun l : List α => .arr n k (l.map f)) (fun l => l.length = n ∧ ∀ a ∈ l, ok a) := by
 intro H enc w fuel cs d ps h hwt
 obtain ⟨m, rfl⟩ := U3 h
 unfold DataW.trod at h; rw [ht] at h
 split at h <;> rename_i h1 <;> try (simp at h1; done)
 all_goals first
  | (simp at h; done)
  | exact ((‹∀ (n_1 : Nat) (e_1 : TypeId), some (TypeDesc.array n e) = some (TypeDesc.array n_1 e_1) → False› : ∀ (n_1 : Nat) (e_1 : TypeId), some (TypeDesc.array n e) = some (TypeDesc.array n_1 e_1) → False) n e rfl).elim
  | skip
 cases h1
 split at h
 ·rename_i hlen
  rw [Option.map_eq_some_iff] at h
  obtain ⟨xs, hx, h⟩ := h
  simp only [Prod.mk.injEq] at h
  obtain ⟨rfl, rfl⟩ := h
  obtain ⟨e1, e2⟩ := PO hx
  simp only [DataW.weights, ht] at hwt
  rw [hn] at hlen
  obtain ⟨l, l1, l2, l3⟩ := Aa7 (f := f) (ok := ok) (w := w) hw _ 0 _ hlen (fun i hi => by
   obtain ⟨x, hx, hxe⟩ := e2 i hi
   rw [hk] at hxe
   obtain ⟨a, ha, hok⟩ := hc enc w m _ x.1 x.2 hxe (AkI hwt (List.mem_map.2 ⟨x, List.mem_of_getElem? hx, rfl⟩))
   exact ⟨a, ha, hok⟩)
  refine ⟨l, ?_, l1, l2⟩
  rw [Ak]
  refine ⟨by rw [List.length_map, l1], fun x hx => ?_, l3⟩
  obtain ⟨a, ha, rfl⟩ := List.mem_map.1 hx; exact hw a (l2 a ha)
 ·cases h
end

def YG (P : Program) (off : Nat) (fs : List Field) {α : Type} (f : α → List TV) (ok : α → Prop) : Prop :=
 ∀ {H : Type} (enc : TypeId × Value → H) (w : World) (fuel : Nat) (cs : List Value) (xs : List (DataW H × List MemPlace)),
  (fs.mapM fun fd => DataW.trod enc P w 0 (fun _ => true) true fuel fd.type ((cs.drop fd.offset).take (P.cellsOf fd.type))) = some xs → (DataW.weightsEach P (fs.map (·.type)) (xs.map (·.1))).all (· ≤ reachBytes) = true →
  cs.length = off + (fs.map fun fd => P.cellsOf fd.type).sum → ∃ a, Aj (came w) w (f a) (cs.drop off) ∧ ok a
theorem Aay {P : Program} {off : Nat} : YG P off [] (fun _ : Unit => []) (fun _ => True) := by
 intro H enc w fuel cs xs _ _ hl
 refine ⟨(), ?_, trivial⟩
 rw [Aj]; exact List.drop_eq_nil_of_le (by simp at hl; omega)
theorem OT {P : Program} {off n : Nat} {fd : Field} {fs : List Field} {α β : Type} {f : α → TV} {ok : α → Prop} {g : β → List TV} {ok' : β → Prop} (h0 : fd.offset = off) (hn : P.cellsOf fd.type = n) (hc : IB P fd.type f ok) (hr : YG P (off + n) fs g ok') :
  YG P off (fd :: fs) (fun x : α × β => f x.1 :: g x.2) (fun x => ok x.1 ∧ ok' x.2) := by
 intro H enc w fuel cs xs hx hw hl
 rw [List.mapM_cons] at hx
 cases h1 : DataW.trod enc P w 0 (fun _ => true) true fuel fd.type ((cs.drop fd.offset).take (P.cellsOf fd.type)) with
 | none => rw [h1] at hx; cases hx
 | some y =>
  rw [h1] at hx
  cases h2 : (fs.mapM fun fd => DataW.trod enc P w 0 (fun _ => true) true fuel fd.type ((cs.drop fd.offset).take (P.cellsOf fd.type))) with
  | none => rw [h2] at hx; cases hx
  | some ys =>
   rw [h2] at hx
   have e : xs = y :: ys := by simpa using hx.symm
   subst e
   simp only [List.map_cons, DataW.weightsEach] at hw
   obtain ⟨a, ha, hoka⟩ := hc enc w fuel _ y.1 y.2 h1 (FU hw fun n hn => List.mem_append_left _ hn)
   obtain ⟨b, hb, hokb⟩ := hr enc w fuel cs ys h2 (FU hw fun n hn => List.mem_append_right _ hn) (by simp [hn] at hl ⊢; omega)
   refine ⟨(a, b), ?_, hoka, hokb⟩
   rw [Aj]
   refine ⟨(cs.drop off).take n, cs.drop (off + n), ?_, by rw [← h0, ← hn]; exact ha, hb⟩
   rw [← List.drop_drop, List.take_append_drop]
theorem YE {P : Program} {t : TypeId} {fs : Array Field} {α : Type} {f : α → List TV} {ok : α → Prop} (ht : P.underlying t = some (.struct fs)) (hn : P.cellsOf t = (fs.toList.map fun fd => P.cellsOf fd.type).sum) (hc : YG P 0 fs.toList f ok) :
  IB P t (fun a => .agg (f a)) ok := by
 intro H enc w fuel cs d ps h hwt
 obtain ⟨m, rfl⟩ := U3 h
 unfold DataW.trod at h; rw [ht] at h
 split at h <;> rename_i h1 <;> try (simp at h1; done)
 all_goals first
  | (simp at h; done)
  | exact ((‹∀ (fs_1 : Array Field), some (TypeDesc.struct fs) = some (TypeDesc.struct fs_1) → False› : ∀ (fs_1 : Array Field), some (TypeDesc.struct fs) = some (TypeDesc.struct fs_1) → False) fs rfl).elim
  | skip
 cases h1
 split at h
 ·rename_i hlen
  rw [Option.map_eq_some_iff] at h
  obtain ⟨xs, hx, h⟩ := h
  simp only [Prod.mk.injEq] at h
  obtain ⟨rfl, rfl⟩ := h
  simp only [DataW.weights, ht] at hwt
  obtain ⟨a, ha, hok⟩ := hc enc w m _ xs hx hwt (by rw [hlen, hn, Nat.zero_add])
  exact ⟨a, by rw [Ak]; rw [List.drop_zero] at ha; exact ha, hok⟩
 ·cases h

def SN (P : Program) (ts : List TypeId) {α : Type} (f : α → List TV) (ok : α → Prop) : Prop :=
 ∀ {H : Type} (enc : TypeId × Value → H) (w : World) (vs : List Value) (ds : List (DataW H)) (ps : List MemPlace),
  DataW.TrodAll enc P w 0 (fun _ => true) true ts vs ds ps → (∀ (j : Nat) t v, ts[j]? = some t → vs[j]? = some v → ∃ base, Value.okWide P w .any base t v) → (DataW.weightsEach P ts ds).all (· ≤ reachBytes) = true → ∃ a, Bg (came w) w (f a) vs ∧ ok a
theorem Ya {P : Program} : SN P [] (fun _ : Unit => []) (fun _ => True) := by
 intro H enc w vs ds ps h _ _
 obtain ⟨rfl, rfl, rfl⟩ := trodAll_nil h
 exact ⟨(), by rw [Bg], trivial⟩
/-- A value of a type is what its cells make of it. -/
def Aa9 (P : Program) (t : TypeId) (b : Bool) : Prop := ∀ w base v, Value.okWide P w .any base t v → if b then ∃ cs, v = .agg cs else v.cells = #[v]
theorem UD {P : Program} {t e : TypeId} (ht : P.underlying t = some (.slice e)) : Aa9 P t false := fun w _ v h => by obtain ⟨_, _, _, rfl⟩ := okWide_slice ht h; rfl
theorem Un {P : Program} {t e : TypeId} {n : Nat} (ht : P.underlying t = some (.array n e)) : Aa9 P t true := fun w _ v h => by
 unfold Value.okWide at h; rw [ht] at h; obtain ⟨cs, rfl, _⟩ := h; exact ⟨cs, rfl⟩
theorem Adh {c : Ctx} {P : Program} {w : World} {t : TypeId} {v : Value} {x : TV} {b : Bool} (hf : Aa9 P t b) {base : Nat} (hv : Value.okWide P w .any base t v) (hx : Uo x = b) : v = mkV x v.cells.toList := by
 have h := hf w base v hv
 cases b with
 | true =>
  simp only [if_true] at h
  obtain ⟨cs, rfl⟩ := h
  rw [Abt hx]; simp [Value.cells]
 | false =>
  simp only [Bool.false_eq_true, if_false] at h
  rw [h]
  exact (U7 hx).symm
theorem Gh {P : Program} {t : TypeId} {ts : List TypeId} {α β : Type} {f : α → TV} {ok : α → Prop} {g : β → List TV} {ok' : β → Prop} {b : Bool} (hc : IB P t f ok) (hf : Aa9 P t b) (hm : ∀ a, Uo (f a) = b) (hr : SN P ts g ok') :
  SN P (t :: ts) (fun x : α × β => f x.1 :: g x.2) (fun x => ok x.1 ∧ ok' x.2) := by
 intro H enc w vs ds ps h hv hw
 obtain ⟨v, vs', d, ds', p, q, rfl, rfl, rfl, h0, r0⟩ := trodAll_cons h
 simp only [DataW.weightsEach] at hw
 obtain ⟨fuel, hfu⟩ := h0
 obtain ⟨a, ha, hoka⟩ := hc enc w fuel _ d p hfu (FU hw fun n hn => List.mem_append_left _ hn)
 obtain ⟨b, hb, hokb⟩ := hr enc w vs' ds' q r0 (fun j t v h1 h2 => hv (j + 1) t v (by simpa using h1) (by simpa using h2)) (FU hw fun n hn => List.mem_append_right _ hn)
 refine ⟨(a, b), Bg.cons.2 ⟨v, vs', rfl, .inr (.inr ⟨v.cells.toList, ha, Adh (c := came w) hf (hv 0 t v rfl rfl).choose_spec (hm a)⟩), hb⟩, hoka, hokb⟩

/-- All that came in reads aS it did. -/
theorem Tu {H : Type} {enc : TypeId × Value → H} {P : Program} (hl : laidOutB P = true) {W W' : World} (hb : Below W.heap.size W W') : ∀ {ts : List TypeId} {vs : List Value} {ds : List (DataW H)} {ps : List MemPlace}, (ts.all fun t => P.readableRec t && decide (t < P.types.size)) = true →
  DataW.TrodAll enc P W 0 (fun _ => true) true ts vs ds ps → DataW.TrodAll enc P W' 0 (fun b => decide (b < W.heap.size)) true ts vs ds ps
 | [], vs, ds, ps, _, h => by
  obtain ⟨rfl, rfl, rfl⟩ := trodAll_nil h
  exact trodAll_mk0
 | t :: ts, vs, ds, ps, hr, h => by
  obtain ⟨v, vs', d, ds', p, q, rfl, rfl, rfl, h0, r0⟩ := trodAll_cons h
  simp only [List.all_cons, Bool.and_eq_true, decide_eq_true_eq] at hr
  refine trodAll_cons_mk (Below.trod hl hr.1.1 hr.1.2 h0 hb ?_) (Tu hl hb (by simpa using hr.2) r0)
  obtain ⟨m, hm⟩ := h0
  exact DataW.trod_lt m _ _ _ hm

theorem NT.below {F F' : Nat → Prop} {w w' : World} (h : NT F w F' w') : Below w.heap.size w w' := ⟨h.os, h.tape, h.output, h.size, fun k hk => h.same k hk⟩
/-- THE WALK OF A STATEMENT, out of what the machine of values says of it. -/
theorem Anw {P : Program} {f : FuncId} {ts : List TypeId} {α : Type} {g : α → List TV} {ok : α → Prop} (hc : SN P ts g ok) (hlaw : ∀ a, ok a → D5 P f (g a) (fun x => x = tb true)) {H : Type} {enc : TypeId × Value → H} {w : World} {args : Array Value} {ds : List (DataW H)} {ps : List MemPlace}
  (h : DataW.TrodAll enc P w 0 (fun _ => true) true ts args.toList ds ps) (hv : ∀ (j : Nat) t v, ts[j]? = some t → args.toList[j]? = some v → ∃ base, Value.okWide P w .any base t v) (hw : (DataW.weightsEach P ts ds).all (· ≤ reachBytes) = true) (hg : JW (fun b => b < w.heap.size) w) :
  Calls P f args w fun e w' => e = .returned (.bool true) ∧ Below w.heap.size w w' := by
 obtain ⟨a, ha, hok⟩ := hc enc w args.toList ds ps h hv hw
 have := hlaw a hok (fun _ _ => none) (fun b => b < w.heap.size) w args.toList ⟨fun b h => h, hg⟩ ha
 rw [Array.toArray_toList] at this
 refine this.mono ?_
 rintro e w' ⟨v, x, F', rfl, rfl, hx, hst⟩
 rw [Rep.val] at hx
 exact ⟨by rw [hx], hst.below⟩
end Go.Proofs.YtmlompedpahkjaaDoor


namespace Go.Proofs.YtmlompedpahkjaaDoor
open Go.RowKit
variable [BA]
set_option linter.unusedSectionVars false
set_option linter.unusedVariables false

theorem AbK {g : Nat} {x : GV} (h : JG g = some x) : (g, x) ∈ BA.l := by
 unfold JG at h
 obtain ⟨p, hp, rfl⟩ := Option.map_eq_some_iff.1 h
 have h1 := List.mem_of_find?_eq_some hp
 have h2 := List.find?_some hp
 have h3 : p.1 = g := by simpa using h2
 obtain ⟨a, b⟩ := p
 simp only at h3; subst h3; exact h1
section
omit [BA]
theorem Ajx {P : Program} {w : World} {name : String} {g : Nat} {cs : Array Value} (hg : P.globalNamed name = some g) (h : w.var? P name = some cs) : ∃ t fr, w.heap[g]? = some (.cells cs t fr) := by
 unfold World.var? at h
 rw [hg, Option.bind_some] at h
 split at h
 ·rename_i c t fr hh; cases h; exact ⟨t, fr, hh⟩
 ·cases h
variable {P : Program} {w : World} {fuel : Nat} {cs : List Value}
end
end Go.Proofs.YtmlompedpahkjaaDoor


namespace Go.Proofs.YtmlompedpahkjaaDoor
open Go.RowKit
variable [BA]
set_option linter.unusedSectionVars false
set_option linter.unusedVariables false
set_option linter.unusedSimpArgs false


structure Anb (c c' : Ctx) (n : Nat) : Prop where
 beta : ∀ id ver, c'.β (id + n) ver = c.β id ver
 has : ∀ id ver, c.has id ver → c'.has (id + n) ver
 keepF : ∀ b, c.F b → c'.F b
theorem Anb.bare {c c' : Ctx} {n : Nat} {w : World} (h : Anb c c' n) : F8 c.bare w c'.bare w := ⟨fun b hb => ⟨h.keepF b hb, rfl⟩, fun _ _ k => (Ctx.bare_has k).elim, fun _ _ => rfl⟩

end Go.Proofs.YtmlompedpahkjaaDoor


namespace Go.Proofs.YtmlompedpahkjaaDoor
open Go.RowKit
variable [BA]
set_option linter.unusedSectionVars false
set_option linter.unusedVariables false
set_option linter.unusedSimpArgs false

/-- Less, by bytes. -/
def ltB (a b : List UInt8) : Prop := a < b
theorem AjW (a b : List UInt8) : Op.bytesLess a b = decide (a < b) := bytesLess_eq a b
theorem Ig (a : List UInt8) : ¬ ltB a a := List.lt_irrefl a
theorem Fa {a b c : List UInt8} (h : ltB a b) (k : ltB b c) : ltB a c := List.lt_trans h k
theorem We {a b : List UInt8} (h1 : ¬ ltB a b) (h2 : ¬ ltB b a) : a = b := List.le_antisymm (List.not_lt.1 h2) (List.not_lt.1 h1)
instance (a b : List UInt8) : Decidable (ltB a b) := inferInstanceAs (Decidable (a < b))

/-- Sorted, each once. -/
abbrev SD (l : List (List UInt8)) : Prop := l.Pairwise ltB
theorem SD.filter {l : List (List UInt8)} (h : SD l) (p : List UInt8 → Bool) : SD (l.filter p) := List.Pairwise.filter p h

theorem Yc : ∀ {a b : List UInt8}, Lib.compareBytes a b < 0 ↔ ltB a b
 | [], [] => by simp [Lib.compareBytes, ltB]
 | [], _ :: _ => by simp [Lib.compareBytes, ltB]
 | _ :: _, [] => by simp [Lib.compareBytes, ltB]
 | a :: xs, b :: ys => by
  have ih := Yc (a := xs) (b := ys)
  unfold ltB at ih ⊢
  rw [Lib.compareBytes, List.cons_lt_cons_iff]
  by_cases h1 : a < b
  ·simp [h1]
  ·by_cases h2 : b < a
   ·have hne : a ≠ b := fun e => by subst e; exact h1 h2
    simp [h1, h2, hne]
   ·have he : a = b := UInt8.le_antisymm (UInt8.not_lt.1 h2) (UInt8.not_lt.1 h1)
    rw [if_neg h1, if_neg h2, ih]
    simp [h1, he]
end Go.Proofs.YtmlompedpahkjaaDoor


namespace Go.Proofs.YtmlompedpahkjaaDoor
open Go.RowKit Go.Sort Go.Shelf
variable [BA]
set_option linter.unusedSectionVars false
set_option linter.unusedVariables false
set_option linter.unusedSimpArgs false

theorem Abv {α : Type} {f : α → List Value} {k : Nat} (hf : ∀ x, (f x).length = k) : ∀ (l : List α) (t : Nat), t < l.length * k → (l.flatMap f)[t]? = (l[t / k]?).bind fun x => (f x)[t % k]?
 | [], t, h => by simp at h
 | x :: l, t, h => by
  have hk : 0 < k := by
   rcases Nat.eq_zero_or_pos k with h0 | h0
   ·subst h0; simp at h
   ·exact h0
  rw [List.flatMap_cons]
  by_cases ht : t < k
  ·rw [List.getElem?_append_left (by rw [hf]; exact ht), Nat.div_eq_of_lt ht, Nat.mod_eq_of_lt ht]
   rfl
  ·obtain ⟨s, rfl⟩ : ∃ s, t = s + k := ⟨t - k, by omega⟩
   rw [List.getElem?_append_right (by rw [hf]; omega), hf, Nat.add_sub_cancel, Nat.add_div_right _ hk, Nat.add_mod_right, List.getElem?_cons_succ]
   exact Abv hf l s (by rw [List.length_cons, Nat.add_mul] at h; omega)
theorem Xe {α : Type} [Inhabited α] {f : α → List Value} {k : Nat} (hf : ∀ x, (f x).length = k) (l : List α) : (flatK f k l.toArray).toList = l.flatMap f := by
 have hlen : (l.flatMap f).length = l.length * k := by
  induction l with
  | nil => simp
  | cons x l ih => rw [List.flatMap_cons, List.length_append, ih, hf, List.length_cons, Nat.add_mul]; omega
 apply List.ext_getElem?
 intro t
 by_cases ht : t < l.length * k
 ·have hk : 0 < k := by
   rcases Nat.eq_zero_or_pos k with h0 | h0
   ·subst h0; simp at ht
   ·exact h0
  have hd : t / k < l.length := Nat.div_lt_of_lt_mul (by rw [Nat.mul_comm]; exact ht)
  have hm : t % k < k := Nat.mod_lt _ hk
  rw [Abv hf l t ht, List.getElem?_eq_getElem hd, Option.bind_some]
  have h1 : t < (flatK f k l.toArray).size := by simpa using ht
  have h2 := get_flatK f k l.toArray t (by simpa using ht)
  rw [Array.getElem?_toList, Array.getElem?_eq_getElem h1]
  rw [getElem!_pos _ t h1] at h2
  rw [h2]
  have h3 : l.toArray[t / k]! = l[t / k] := by rw [getElem!_pos l.toArray (t / k) (by simpa using hd)]; simp
  rw [h3, List.getElem?_eq_getElem (by rw [hf]; exact hm), getElem!_pos _ _ (by rw [hf]; exact hm)]
 ·rw [List.getElem?_eq_none (l := (flatK f k l.toArray).toList) (by simpa using Nat.le_of_not_lt ht), List.getElem?_eq_none (l := l.flatMap f) (by rw [hlen]; omega)]
theorem Akf {off : Nat} {pre mid mid' post : List Value} (h1 : pre.length = off) (h2 : mid'.length = mid.length) : putCells id off mid'.toArray (pre ++ mid ++ post).toArray = (pre ++ mid' ++ post).toArray := by
 apply Array.ext_getElem?
 intro t
 simp only [putCells, Array.getElem?_mapIdx, List.getElem?_toArray, List.size_toArray]
 by_cases ha : t < off
 ·rw [List.append_assoc, List.append_assoc, List.getElem?_append_left (by omega), List.getElem?_append_left (by omega)]
  cases pre[t]? with
  | none => rfl
  | some y => simp [show ¬ (off ≤ t) by omega]
 ·obtain ⟨s, rfl⟩ : ∃ s, t = off + s := ⟨t - off, by omega⟩
  have A : ∀ m : List Value, (pre ++ (m ++ post))[off + s]? = (m ++ post)[s]? := fun m => by rw [List.getElem?_append_right (by omega), h1, Nat.add_sub_cancel_left]
  rw [List.append_assoc, List.append_assoc, A, A]
  by_cases hb : s < mid.length
  ·rw [List.getElem?_append_left hb, List.getElem?_append_left (by omega), List.getElem?_eq_getElem hb, List.getElem?_eq_getElem (by omega)]
   simp [h2, hb, show s < mid'.length by omega]
  ·rw [List.getElem?_append_right (by omega), List.getElem?_append_right (by omega), h2]
   cases post[s - mid.length]? with
   | none => rfl
   | some y => simp [show ¬ (s < mid.length) by omega, h2]



abbrev Asj := {l : List UInt8 // l.length = 20}
instance : Inhabited Asj := ⟨⟨List.replicate 20 0, by simp⟩⟩
end Go.Proofs.YtmlompedpahkjaaDoor


namespace Go.Proofs.YtmlompedpahkjaaDoor
open Go.RowKit Go.Sort Go.Shelf
variable [BA]
set_option linter.unusedSectionVars false
set_option linter.unusedVariables false
set_option linter.unusedSimpArgs false

/-- SORTED, aS it comes. -/
def Jn {α : Type} [Inhabited α] (cf : α → α → Int) (d : List α) : List α := (pdq (ltOf cf) d.toArray 0 d.toArray.size (Lib.bitLen d.toArray.size) true true).toList
theorem Abh {α : Type} [Inhabited α] {cf : α → α → Int} (hO : SWO (ltOf cf)) (d : List α) : (Jn cf d).Perm d ∧ (Jn cf d).Pairwise (fun x y => ltOf cf y x = false) := by
 have h := pdq_sorts (ltOf cf) hO d.toArray 0 d.toArray.size (Lib.bitLen d.toArray.size) true true (Nat.zero_le _) (Nat.le_refl _) (Or.inl rfl)
 obtain ⟨⟨h1, _, h3⟩, h2⟩ := h
 unfold Jn
 generalize pdq (ltOf cf) d.toArray 0 d.toArray.size (Lib.bitLen d.toArray.size) true true = r at *
 constructor
 ·have e1 : r.extract 0 d.toArray.size = r := by rw [← h1]; simp
  have e2 : d.toArray.extract 0 d.toArray.size = d.toArray := by simp
  rw [e1, e2] at h3; simpa using h3
 ·rw [List.pairwise_iff_getElem]
  intro i j hi hj hij
  have hj' : j < r.size := by simpa using hj
  have := h2 i j (Nat.zero_le _) hij (by omega)
  rw [getElem!_pos r j hj', getElem!_pos r i (by omega)] at this
  simpa using this
theorem YQ {α : Type} [Inhabited α] {cf : α → α → Int} (hO : SWO (ltOf cf)) {d : List α} : (Jn cf d).length = d.length := (Abh hO d).1.length_eq

theorem Aao {P : Program} {ρ : Ren} (L : SlLaysF0.n6 P ρ) {α : Type} [Inhabited α] {k : Nat} (aE : ∀ w, (isAgg (ρ.t 24)).run P w = .ok true w) (zE : ∀ w, (Go.sizeOf (ρ.t 24)).run P w = .ok k w) {enc : α → List Value} (hk : ∀ x, (enc x).length = k) (h1 : ∀ x, ∀ v ∈ enc x, v.oneCell' = true)
  {eT : α → TV} (hw : ∀ x, Aw (eT x) = k) (hr : ∀ c w x us, Ak c w (eT x) us ↔ us = enc x) {cf : α → α → Int} (hO : SWO (ltOf cf))
  {g : Nat} (eg : ∀ args w, (callFunc g args).run P w = .ok (.enter g args) w) {id ver N n cp : Nat} {d : List α} {rest : List TV} {fT : TV} {H : List Ob} {K : TV → List Ob → Prop}
  (hf : ∀ β F w v, Sim ⟨β, H, F⟩ w → Ab4 ⟨β, H, F⟩ w fT v → ∃ cb, v = .func (.func g) #[] cb ∧ ∀ blk off size, CmpLays P g cb enc k cf blk off size w)
  (hid : H[id]? = some (.obj ver (.arr N k (d.map eT ++ rest)))) (hn : n = d.length) (hb : n < 4611686018427387904)
  (hK : K (.tup []) (H.set id (.obj ver (.arr N k ((Jn cf d).map eT ++ rest))))) : Ap P (ρ.f 6) [.os k id ver [] 0 n cp, fT] H K := by
 intro β F w vs hs hv
 obtain ⟨u, us, rfl, h2, h3⟩ := Bg.cons.1 hv
 obtain ⟨u2, us2, rfl, h4, h5⟩ := Bg.cons.1 h3
 rw [Bg.nil] at h5; subst h5
 obtain ⟨cb, rfl, hcmp⟩ := hf β F w u2 hs h4
 rcases h2 with h | h | ⟨ux, h2, rfl⟩
 ·cases h
 ·cases h
 by_cases hn0 : n = 0
 ·obtain ⟨p0, c0, rfl⟩ : ∃ p0 c0, ux = [.slice p0 0 c0] := by
   rw [Ak] at h2
   rcases h2.2 with ⟨_, a0, e, _⟩ | ⟨b, o, cap, t, m, _, e, _⟩
   ·exact ⟨a0, 0, e⟩
   ·exact ⟨_, cap, by rw [e, hn0]⟩
  have hd : d = [] := List.length_eq_zero_iff.1 (by omega)
  subst hd
  have hset : H.set id (.obj ver (.arr N k ((Jn cf ([] : List α)).map eT ++ rest))) = H := by
   have e : Jn cf ([] : List α) = [] := List.length_eq_zero_iff.1 (YQ hO)
   rw [e]
   apply List.ext_getElem?
   intro i
   rw [List.getElem?_set]
   split
   ·rename_i e; subst e
    rw [hid]; simp [(List.getElem?_eq_some_iff.1 hid).1]
   ·rfl
  rw [hset] at hK
  refine (AnyF.slices_SortFunc_none L p0 c0 (.func (.func g) #[] cb) w).mono ?_
  rintro _ _ ⟨rfl, rfl⟩
  exact ⟨_, _, β, _, F, rfl, hK, hs, AA.refl _ _, .inr ⟨[], [], rfl, rfl, Bg.nil.2 rfl⟩⟩
 ·rw [Ak] at h2
  rcases h2.2 with ⟨e, _⟩ | ⟨b, o, cap, t, m, hb1, rfl, hb2, hb3, hb4, hb5, hb6⟩
  ·exact absurd e hn0
  rcases hs.ob id _ hid with ⟨k0, _⟩ | ⟨b', off', pre, vs, post, t', fr, k1, k2, k3, k4, k5⟩
  ·have k0' : β id ver = none := k0
   have hb1' : β id ver = some (b, o) := hb1
   rw [k0'] at hb1'; cases hb1'
  have hb1' : β id ver = some (b, o) := hb1
  have k1' : β id ver = some (b', off') := k1
  rw [k1'] at hb1'
  obtain ⟨rfl, rfl⟩ : b' = b ∧ off' = o := by simpa using hb1'
  rw [Ak] at k5
  obtain ⟨c1, c2, c3⟩ := k5
  obtain ⟨va, vb, rfl, c4, c5⟩ := Aj.split c3
  have hmap : ∀ (l : List α) us, Aj (Ctx.bare ⟨β, H, F⟩) w (l.map eT) us ↔ us = l.flatMap enc := by
   intro l
   induction l with
   | nil => intro us; rw [List.map_nil, Aj]; rfl
   | cons x l ih =>
    intro us
    rw [List.map_cons, Aj, List.flatMap_cons]
    constructor
    ·rintro ⟨a, b, rfl, e1, e2⟩; rw [(hr _ _ _ _).1 e1, (ih _).1 e2]
    ·rintro rfl; exact ⟨_, _, rfl, (hr _ _ _ _).2 rfl, (ih _).2 rfl⟩
  rw [hmap] at c4
  subst c4
  have hfl : ∀ l : List α, (l.flatMap enc).length = l.length * k := by
   intro l
   induction l with
   | nil => simp
   | cons x l ih => rw [List.flatMap_cons, List.length_append, ih, hk, List.length_cons, Nat.add_mul]; omega
  have hlt : b' < w.heap.size := (Array.getElem?_eq_some_iff.1 k2).1
  have hH : HoldsK enc k w b' off' d.toArray := by
   intro j hj
   have hj' : j < (d.flatMap enc).length := by rw [hfl]; simpa using hj
   have e1 : (flatK enc k d.toArray)[j]! = (d.flatMap enc)[j] := by
    rw [getElem!_pos _ j hj]
    have := congrArg (fun l : List Value => l[j]?) (Xe hk d)
    simp only [Array.getElem?_toList] at this
    rw [Array.getElem?_eq_getElem hj, List.getElem?_eq_getElem hj'] at this
    exact Option.some.inj this
   rw [e1]
   constructor
   ·rw [cell_of_row w b' _ _ _ _ k2]
    simp only [List.getElem?_toArray]
    rw [List.append_assoc, List.getElem?_append_right (by omega), k4, Nat.add_sub_cancel_left, List.append_assoc, List.getElem?_append_left hj', List.getElem?_eq_getElem hj']
    rfl
   ·simp only [World.frozen?, k2]
    have := k3.2 (off' + j) (by simp only [List.length_append]; omega)
    simpa using this
  have hsz : d.toArray.size < 4611686018427387904 := by simp; omega
  have hS := AnyQ.slices_SortFunc_eq L k aE zE enc hk h1 cf hO g cb b' off' cap d.toArray w eg (hcmp _ _ _) hH hlt hsz
  have hz : (off' + Dz [] + 0 * k) = off' := by simp [Dz]
  rw [hz]
  have hz2 : n = d.toArray.size := by simp [hn]
  rw [hz2]
  refine hS.mono ?_
  rintro _ w' ⟨rfl, q, os, rfl⟩
  rw [show pdq (ltOf cf) d.toArray 0 d.toArray.size (Lib.bitLen d.toArray.size) true true = (Jn cf d).toArray from (Array.toArray_toList).symm]
  have hsl : (Jn cf d).length = d.length := YQ hO
  have hmid : ((Jn cf d).flatMap enc).length = (d.flatMap enc).length := by rw [hfl, hfl, hsl]
  have hflat : flatK enc k (Jn cf d).toArray = ((Jn cf d).flatMap enc).toArray := by
   rw [← Xe hk (Jn cf d)]
  have hw1 : (sortWorldK enc k w b' off' q (Jn cf d).toArray os).heap[b']? = some (.cells (pre ++ ((Jn cf d).flatMap enc ++ vb) ++ post).toArray t' fr) := by
   show ((w.heap.modify b' (onCells (putCells _root_.id off' (flatK enc k (Jn cf d).toArray)))) ++ os)[b']? = _
   rw [hflat, Array.getElem?_append, if_pos (by simpa using hlt), Array.getElem?_modify, if_pos rfl, k2]
   simp only [Option.map_some, onCells]
   rw [show pre ++ (d.flatMap enc ++ vb) ++ post = pre ++ d.flatMap enc ++ (vb ++ post) by simp, Akf k4 hmid]
   simp
  have hw2 : ∀ b2, b2 < w.heap.size → b2 ≠ b' → (sortWorldK enc k w b' off' q (Jn cf d).toArray os).heap[b2]? = w.heap[b2]? := by
   intro b2 hb2 hne
   show ((w.heap.modify b' (onCells (putCells _root_.id off' (flatK enc k (Jn cf d).toArray)))) ++ os)[b2]? = _
   rw [Array.getElem?_append, if_pos (by simpa using hb2), Array.getElem?_modify, if_neg (Ne.symm hne)]
  generalize hgen : sortWorldK enc k w b' off' q (Jn cf d).toArray os = w2 at hw1 hw2 ⊢
  have o1 : w2.os = w.os ∧ w2.tape = w.tape ∧ w2.output = w.output ∧ w.heap.size ≤ w2.heap.size := by
   rw [← hgen]
   refine ⟨rfl, rfl, rfl, ?_⟩
   simp [sortWorldK, putRowK, Sort.ahead]
  obtain ⟨t1, t2⟩ := hs.turn (β' := β) (o' := .obj ver (.arr N k ((Jn cf d).map eT ++ rest))) (w' := w2) hid rfl rfl (Nat.le_refl _) (fun _ _ _ => rfl) (fun b1 off e => .inl ⟨off, e⟩) o1.1 o1.2.1 o1.2.2.1 o1.2.2.2
   (fun b1 hb1 => by
    by_cases e : b1 = b'
    ·subst e
     simp only [World.shape?, hw1, k2]
     simp only [List.size_toArray, List.length_append]
     rw [hmid]
    ·exact Bq (hw2 b1 hb1 e))
   (fun b1 hb1 hne => hw2 b1 hb1 fun e => hne off' (e ▸ k1'))
   (fun hm => .inr ⟨b', off', pre, (Jn cf d).flatMap enc ++ vb, post, t', fr, k1, hw1, by
    have : (pre ++ ((Jn cf d).flatMap enc ++ vb) ++ post).length = (pre ++ (d.flatMap enc ++ vb) ++ post).length := by
     simp only [List.length_append, hmid]
    rw [this]; exact k3, k4, by
    rw [Ak]
    refine ⟨by rw [List.length_append, List.length_map, hsl, ← c1, List.length_append, List.length_map], fun x hx => ?_, Aj.append ?_ (Aj.mono hm.bare c5)⟩
    ·rcases List.mem_append.1 hx with hx | hx
     ·obtain ⟨y, _, rfl⟩ := List.mem_map.1 hx; exact hw y
     ·exact c2 x (List.mem_append_right _ hx)
    ·have : ∀ (c : Ctx) (l : List α), Aj c w2 (l.map eT) (l.flatMap enc) := by
      intro c l
      induction l with
      | nil => rw [List.map_nil, Aj]; rfl
      | cons x l ih => rw [List.map_cons, Aj, List.flatMap_cons]; exact ⟨_, _, rfl, (hr _ _ _ _).2 rfl, ih⟩
     exact this _ _⟩)
  exact ⟨_, _, β, _, F, rfl, hK, t1, t2, .inr ⟨[], [], rfl, rfl, Bg.nil.2 rfl⟩⟩
end Go.Proofs.YtmlompedpahkjaaDoor


namespace Go.Proofs.YtmlompedpahkjaaDoor
open Go.RowKit
variable [BA]
set_option linter.unusedSectionVars false
set_option linter.unusedVariables false
set_option linter.unusedSimpArgs false
set_option autoImplicit false

/-- A place. -/
structure Pl where
 id : List UInt8
 off : Int
 crc : Nat
def be4 (n : Nat) : List UInt8 := [UInt8.ofNat (n / 16777216), UInt8.ofNat (n / 65536), UInt8.ofNat (n / 256), UInt8.ofNat n]
@[simp] theorem YH (n : Nat) : (be4 n).length = 4 := rfl
/-- Four bytes aS a number. -/
def nm4 (b : List UInt8) : Nat := (b.getD 0 0).toNat * 16777216 + (b.getD 1 0).toNat * 65536 + (b.getD 2 0).toNat * 256 + (b.getD 3 0).toNat
theorem Zp (b : List UInt8) : nm4 b < 4294967296 := by
 unfold nm4
 have := UInt8.toNat_lt (b.getD 0 0); have := UInt8.toNat_lt (b.getD 1 0); have := UInt8.toNat_lt (b.getD 2 0); have := UInt8.toNat_lt (b.getD 3 0)
 omega
theorem AdT {n : Nat} (h : n < 4294967296) (r : List UInt8) : nm4 (be4 n ++ r) = n := by
 unfold nm4 be4
 simp only [List.cons_append, List.getD_cons_zero, List.getD_cons_succ, UInt8.toNat_ofNat']
 omega
/-- Pieces of one length, one behind the other. -/
theorem H9 {α : Type} {f : α → List UInt8} {k : Nat} : ∀ {l : List α}, (∀ x ∈ l, (f x).length = k) → (l.flatMap f).length = l.length * k
 | [], _ => by simp
 | x :: l, h => by rw [List.flatMap_cons, List.length_append, h x (by simp), H9 fun y hy => h y (List.mem_cons_of_mem _ hy), List.length_cons, Nat.add_mul]; omega
theorem Zm {α : Type} {f : α → List UInt8} {k : Nat} : ∀ {l : List α} {i : Nat}, (∀ x ∈ l, (f x).length = k) → i ≤ l.length → (l.flatMap f).drop (k * i) = (l.drop i).flatMap f
 | l, 0, _, _ => by simp
 | [], i + 1, _, h => by simp at h
 | x :: l, i + 1, h, hi => by
  rw [List.flatMap_cons, List.drop_append, List.drop_eq_nil_of_le (by rw [h x (by simp), Nat.mul_add]; omega), h x (by simp), show k * (i + 1) - k = k * i by rw [Nat.mul_add]; omega, List.nil_append, List.drop_succ_cons]
  exact Zm (fun y hy => h y (List.mem_cons_of_mem _ hy)) (by simpa using hi)
theorem AaN {α : Type} {f : α → List UInt8} {k : Nat} {l : List α} {i : Nat} {x : α} (h : ∀ x ∈ l, (f x).length = k) (hi : l[i]? = some x) (r : List UInt8) : ∃ r', (l.flatMap f ++ r).drop (k * i) = f x ++ r' := by
 obtain ⟨hl, rfl⟩ := List.getElem?_eq_some_iff.1 hi
 refine ⟨(l.drop (i + 1)).flatMap f ++ r, ?_⟩
 have h2 : k * i ≤ (l.flatMap f).length := by rw [H9 h, Nat.mul_comm]; exact Nat.mul_le_mul_right k (by omega)
 rw [List.drop_append_of_le_length h2, Zm h (by omega), List.drop_eq_getElem_cons hl, List.flatMap_cons, List.append_assoc]

/-- How many begin with no more than that. -/
def RI (s : List Pl) (f : Nat) : Nat := s.countP fun p => decide ((p.id.getD 0 0).toNat ≤ f)
def AcM (s : List Pl) : List UInt8 := (List.range 256).flatMap fun f => be4 (RI s f)
/-- All ahead of the sum. -/
def FT (s : List Pl) (sum : List UInt8) : List UInt8 := [255, 116, 79, 99] ++ be4 2 ++ AcM s ++ s.flatMap (·.id) ++ s.flatMap (fun p => be4 p.crc) ++ s.flatMap (fun p => be4 p.off.toNat) ++ sum
structure AoD (p : Pl) : Prop where
 id : p.id.length = 20
 off : 0 ≤ p.off ∧ p.off < 2147483648
 crc : p.crc < 4294967296
theorem Abd (s : List Pl) : (AcM s).length = 1024 := by
 unfold AcM; rw [H9 (k := 4) (fun _ _ => rfl)]; simp
theorem XX {s : List Pl} (h : ∀ p ∈ s, p.id.length = 20) (sum : List UInt8) : (FT s sum).length = 1032 + 28 * s.length + sum.length := by
 unfold FT
 simp only [List.length_append, Abd, YH, H9 (f := fun p : Pl => p.id) (k := 20) h, H9 (f := fun p : Pl => be4 p.crc) (k := 4) (fun _ _ => rfl), H9 (f := fun p : Pl => be4 p.off.toNat) (k := 4) (fun _ _ => rfl)]
 simp; omega
/-- The place of a number. -/
def Yb (b : List UInt8) (n i : Nat) : Pl := ⟨(b.drop (1032 + 20 * i)).take 20, nm4 (b.drop (1032 + 24 * n + 4 * i)), nm4 (b.drop (1032 + 20 * n + 4 * i))⟩
def Ha (b : List UInt8) : List Pl := (List.range ((b.length - 1072) / 28)).map (Yb b ((b.length - 1072) / 28))
theorem AiC {s : List Pl} (h : ∀ p ∈ s, AoD p) {sum t : List UInt8} {i : Nat} {p : Pl} (hi : s[i]? = some p) : Yb (FT s sum ++ t) s.length i = p := by
 obtain ⟨hl, e⟩ := List.getElem?_eq_some_iff.1 hi
 have hp : p ∈ s := e ▸ List.getElem_mem hl
 obtain ⟨h1, ⟨h2, h3⟩, h4⟩ := h p hp
 have hid : ∀ q ∈ s, q.id.length = 20 := fun q hq => (h q hq).id
 have l1 := H9 (f := fun p : Pl => p.id) (k := 20) hid
 have l2 := H9 (l := s) (f := fun p : Pl => be4 p.crc) (k := 4) (fun _ _ => rfl)
 have l3 := H9 (l := s) (f := fun p : Pl => be4 p.off.toNat) (k := 4) (fun _ _ => rfl)
 have lf := Abd s
 have d : ∀ (A R L : List UInt8) (m n : Nat), L = A ++ R → n = A.length + m → L.drop n = R.drop m := fun A R L m n h1 h2 => by rw [h1, h2, List.drop_append, List.drop_eq_nil_of_le (by omega), List.nil_append, Nat.add_sub_cancel_left]
 have e1 : (FT s sum ++ t).drop (1032 + 20 * i) = ((s.flatMap (·.id)) ++ ((s.flatMap fun p => be4 p.crc) ++ ((s.flatMap fun p => be4 p.off.toNat) ++ (sum ++ t)))).drop (20 * i) :=
  d ([255, 116, 79, 99] ++ be4 2 ++ AcM s) _ _ _ _ (by unfold FT; simp only [List.append_assoc]) (by simp only [List.length_append, lf, YH, List.length_cons, List.length_nil])
 have e2 : (FT s sum ++ t).drop (1032 + 20 * s.length + 4 * i) = ((s.flatMap fun p => be4 p.crc) ++ ((s.flatMap fun p => be4 p.off.toNat) ++ (sum ++ t))).drop (4 * i) :=
  d ([255, 116, 79, 99] ++ be4 2 ++ AcM s ++ s.flatMap (·.id)) _ _ _ _ (by unfold FT; simp only [List.append_assoc]) (by simp only [List.length_append, lf, YH, l1, List.length_cons, List.length_nil]; omega)
 have e3 : (FT s sum ++ t).drop (1032 + 24 * s.length + 4 * i) = ((s.flatMap fun p => be4 p.off.toNat) ++ (sum ++ t)).drop (4 * i) :=
  d ([255, 116, 79, 99] ++ be4 2 ++ AcM s ++ s.flatMap (·.id) ++ s.flatMap fun p => be4 p.crc) _ _ _ _ (by unfold FT; simp only [List.append_assoc]) (by simp only [List.length_append, lf, YH, l1, l2, List.length_cons, List.length_nil]; omega)
 obtain ⟨r1, f1⟩ := AaN (f := fun p : Pl => p.id) (k := 20) hid hi ((s.flatMap fun p => be4 p.crc) ++ ((s.flatMap fun p => be4 p.off.toNat) ++ (sum ++ t)))
 obtain ⟨r2, f2⟩ := AaN (f := fun p : Pl => be4 p.crc) (k := 4) (fun _ _ => rfl) hi ((s.flatMap fun p => be4 p.off.toNat) ++ (sum ++ t))
 obtain ⟨r3, f3⟩ := AaN (f := fun p : Pl => be4 p.off.toNat) (k := 4) (fun _ _ => rfl) hi (sum ++ t)
 unfold Yb
 rw [e1, e2, e3, f1, f2, f3, AdT h4, AdT (by omega), List.take_left' h1, Int.toNat_of_nonneg h2]
/-- WHAT WAS WRITTEN IS READ. -/
theorem Abb {s : List Pl} (h : ∀ p ∈ s, AoD p) {sum t : List UInt8} (hs : sum.length = 20) (ht : t.length = 20) : Ha (FT s sum ++ t) = s := by
 have hl : (FT s sum ++ t).length = 1072 + 28 * s.length := by rw [List.length_append, XX (fun p hp => (h p hp).id), hs, ht]; omega
 unfold Ha
 rw [hl, show (1072 + 28 * s.length - 1072) / 28 = s.length by omega]
 apply List.ext_getElem?
 intro i
 rw [List.getElem?_map]
 by_cases hi : i < s.length
 ·rw [List.getElem?_range hi]
  obtain ⟨p, hp⟩ : ∃ p, s[i]? = some p := ⟨_, List.getElem?_eq_getElem hi⟩
  rw [hp, Option.map_some, AiC h hp]
 ·rw [List.getElem?_eq_none (l := s) (by omega), List.getElem?_eq_none (by simp; omega)]; rfl
theorem Alq {s : List Pl} (h : ∀ p ∈ s, p.id.length = 20) {sum t : List UInt8} (hs : sum.length = 20) (ht : t.length = 20) : ((FT s sum ++ t).drop ((FT s sum ++ t).length - 40)).take 20 = sum := by
 have hl : (FT s sum).length = 1032 + 28 * s.length + 20 := by rw [XX h, hs]
 rw [List.length_append, ht, hl]
 have : FT s sum ++ t = ([255, 116, 79, 99] ++ be4 2 ++ AcM s ++ s.flatMap (·.id) ++ s.flatMap (fun p => be4 p.crc) ++ s.flatMap (fun p => be4 p.off.toNat)) ++ (sum ++ t) := by unfold FT; rw [List.append_assoc]
 rw [this, List.drop_append, List.drop_eq_nil_of_le, List.nil_append, show ∀ n, n = 0 → (sum ++ t).drop n = sum ++ t from fun n hn => by subst hn; rfl, List.take_left' hs]
 ·have h3 := congrArg List.length this
  simp only [List.length_append] at h3 hl ⊢
  unfold FT at hl
  simp only [List.length_append] at hl
  omega
 ·unfold FT at hl
  simp only [List.length_append] at hl ⊢
  omega
/-- Sorted by their ids, no two of one. -/
def SP (s : List Pl) : Prop := s.Pairwise fun x y => ltB x.id y.id
theorem SP.uniq {a b l : List Pl} (ha : SP a) (hb : SP b) (pa : a.Perm l) (pb : b.Perm l) : a = b :=
 List.Perm.eq_of_pairwise (le := fun x y : Pl => ltB x.id y.id) (fun x y _ _ h1 h2 => absurd (Fa h1 h2) (Ig _)) ha hb (pa.trans pb.symm)
/-- Sorted, and no two of one id. -/
theorem SP.of {a : List Pl} (h : a.Pairwise fun x y => ¬ ltB y.id x.id) (hn : (a.map (·.id)).Nodup) : SP a := by
 induction a with
 | nil => exact List.Pairwise.nil
 | cons x a ih =>
  rw [List.map_cons, List.nodup_cons] at hn
  rw [List.pairwise_cons] at h
  refine List.pairwise_cons.2 ⟨fun y hy => ?_, ih h.2 hn.2⟩
  refine Classical.byContradiction fun hno => hn.1 ?_
  rw [We hno (h.1 y hy)]
  exact List.mem_map_of_mem hy
/-- Nothing that may not be. -/
structure Fit (l : List Pl) : Prop where
 off : ∀ p ∈ l, 0 ≤ p.off ∧ p.off < 2147483648
 ids : (l.map (·.id)).Nodup
theorem Fit.perm {l m : List Pl} (h : Fit l) (p : l.Perm m) : Fit m := ⟨fun x hx => h.off x (p.mem_iff.2 hx), (p.map _).nodup_iff.1 h.ids⟩
/-- In a sorted list two alike lie Apk by Apk. -/
theorem Apk {a : List Pl} (h : a.Pairwise fun x y => ¬ ltB y.id x.id) (hs : ∀ (i : Nat) x y, a[i]? = some x → a[i + 1]? = some y → x.id ≠ y.id) : (a.map (·.id)).Nodup := by
 induction a with
 | nil => exact List.nodup_nil
 | cons x a ih =>
  rw [List.pairwise_cons] at h
  have ih := ih h.2 fun i y z h1 h2 => hs (i + 1) y z (by simpa using h1) (by simpa using h2)
  rw [List.map_cons, List.nodup_cons]
  refine ⟨fun hm => ?_, ih⟩
  obtain ⟨y, hy, e⟩ := List.mem_map.1 hm
  cases a with
  | nil => simp at hy
  | cons z a =>
   have hxz := hs 0 x z rfl rfl
   rcases List.mem_cons.1 hy with rfl | hy
   ·exact hxz e.symm
   ·have h1 := h.1 z (by simp)
    have h2 := (List.pairwise_cons.1 h.2).1 y hy
    rw [e] at h2
    exact hxz (We h2 h1)
/-- How many begin with just that. -/
def Fv (s : List Pl) (f : Nat) : Nat := s.countP fun p => decide ((p.id.getD 0 0).toNat = f)
theorem Aew (s : List Pl) : RI s 0 = Fv s 0 := by unfold RI Fv; simp
theorem AcT (s : List Pl) (f : Nat) : RI s (f + 1) = RI s f + Fv s (f + 1) := by
 unfold RI Fv
 induction s with
 | nil => rfl
 | cons p s ih =>
  simp only [List.countP_cons, decide_eq_true_eq]
  rw [ih]
  split <;> split <;> split <;> omega
theorem AaU (s : List Pl) (f : Nat) : RI s f ≤ s.length := List.countP_le_length
theorem AfJ (s : List Pl) (f : Nat) : Fv s f ≤ s.length := List.countP_le_length
theorem AbN (s : List Pl) (p : Pl) (f : Nat) : Fv (s ++ [p]) f = Fv s f + if (p.id.getD 0 0).toNat = f then 1 else 0 := by
 unfold Fv; rw [List.countP_append]; simp [List.countP_cons]
theorem AeZ (s : List Pl) (p : Pl) (f : Nat) : RI (s ++ [p]) f = RI s f + if (p.id.getD 0 0).toNat ≤ f then 1 else 0 := by
 unfold RI; rw [List.countP_append]; simp [List.countP_cons]
theorem SP.insert {out : List Pl} (h : SP out) {x : Pl} {k : Nat} (hk : k ≤ out.length) (h1 : ∀ (i : Nat) y, i < k → out[i]? = some y → ltB y.id x.id) (h2 : ∀ y, out[k]? = some y → ¬ ltB y.id x.id) (h3 : ¬ x.id ∈ out.map (·.id)) : SP (out.take k ++ x :: out.drop k) := by
 have hs := h
 unfold SP at h ⊢
 rw [List.pairwise_append, List.pairwise_cons]
 have hd : ∀ y ∈ out.drop k, ltB x.id y.id := fun y hy => by
  obtain ⟨j, hj⟩ := List.getElem?_of_mem hy
  rw [List.getElem?_drop] at hj
  have hne : y.id ≠ x.id := fun e => h3 (List.mem_map.2 ⟨y, List.mem_of_mem_drop hy, e⟩)
  have hno : ¬ ltB y.id x.id := by
   rcases Nat.eq_zero_or_pos j with rfl | hpos
   ·exact h2 y hj
   ·obtain ⟨hkj, rfl⟩ := List.getElem?_eq_some_iff.1 hj
    intro hlt
    have hkl : k < out.length := by omega
    have := List.pairwise_iff_getElem.1 h k (k + j) hkl hkj (by omega)
    exact h2 out[k] (List.getElem?_eq_getElem hkl) (Fa this hlt)
  exact Classical.byContradiction fun hc => hne (We hno hc)
 refine ⟨h.sublist (List.take_sublist _ _), ⟨hd, h.sublist (List.drop_sublist _ _)⟩, fun y hy z hz => ?_⟩
 obtain ⟨i, hi⟩ := List.getElem?_of_mem hy
 have hik : i < k := by
  have := (List.getElem?_eq_some_iff.1 hi).1
  simp at this; omega
 rw [List.getElem?_take, if_pos hik] at hi
 have hyx := h1 i y hik hi
 rcases List.mem_cons.1 hz with rfl | hz
 ·exact hyx
 ·exact Fa hyx (hd z hz)
theorem VJ {α : Type} {out : List α} {x : α} {k : Nat} {l : List α} (h : out.Perm l) : (out.take k ++ x :: out.drop k).Perm (l ++ [x]) := by
 have h1 : (out.take k ++ x :: out.drop k).Perm (x :: (out.take k ++ out.drop k)) := List.perm_middle
 rw [List.take_append_drop] at h1
 exact h1.trans ((List.Perm.cons x h).trans (List.perm_append_singleton x l).symm)
/-- THE BYTES OF AN INDEX: none, where something may not be. -/
def Wr (l : List Pl) (sum : List UInt8) (sha : List UInt8 → List UInt8) (r : Option (List UInt8)) : Prop :=
 (Fit l → ∃ s, SP s ∧ s.Perm l ∧ r = some (FT s sum ++ sha (FT s sum))) ∧ (¬ Fit l → r = none)
theorem Wr.uniq {l : List Pl} {sum : List UInt8} {sha : List UInt8 → List UInt8} {r q : Option (List UInt8)} (h : Wr l sum sha r) (k : Wr l sum sha q) : r = q := by
 by_cases c : Fit l
 ·obtain ⟨s, h1, h2, rfl⟩ := h.1 c
  obtain ⟨t, k1, k2, rfl⟩ := k.1 c
  rw [h1.uniq k1 h2 k2]
 ·rw [h.2 c, k.2 c]
end Go.Proofs.YtmlompedpahkjaaDoor


namespace Go.Proofs
open Go.Shelf
def Tryd.sortL_ren : Go.Shelf.Ren := ⟨fun | 6 => 72 | 15 => 103 | 14 => 102 | 28 => 129 | 29 => 130 | 20 => 121 | 21 => 122 | 22 => 123 | 23 => 124 | 24 => 125 | 25 => 126 | 26 => 127 | 27 => 128 | 46 => 146 | 47 => 147 | 48 => 148 | 49 => 149 | 50 => 150 | 57 => 171 | n => n, fun | 22 => 36 | 24 => 42 | 25 => 138 | 3 => 3 | 39 => 49 | 0 => 0 | 53 => 40 | 55 => 143 | 4 => 4 | 46 => 206 | 45 => 205 | 50 => 149 | 5 => 5 | 9 => 9 | 66 => 229 | 70 => 233 | 76 => 246 | 77 => 94 | n => n, fun | n => n⟩
theorem Tryd.sortL : Go.Proofs.SlLaysF0.n6 Tryd.prog Tryd.sortL_ren := {
 mixed := by kernel_rfl
 f6 := ⟨Tryd.f72.name, by decide, Tryd.func72.trans (congrArg some (by kernel_rfl))⟩
 f14 := ⟨Tryd.f102.name, by decide, Tryd.func102.trans (congrArg some (by kernel_rfl))⟩
 f15 := Tryd.func103.trans (congrArg some (by kernel_rfl))
 f20 := ⟨Tryd.f121.name, by decide, Tryd.func121.trans (congrArg some (by kernel_rfl))⟩
 f21 := ⟨Tryd.f122.name, by decide, Tryd.func122.trans (congrArg some (by kernel_rfl))⟩
 f22 := ⟨Tryd.f123.name, by decide, Tryd.func123.trans (congrArg some (by kernel_rfl))⟩
 f23 := ⟨Tryd.f124.name, by decide, Tryd.func124.trans (congrArg some (by kernel_rfl))⟩
 f24 := ⟨Tryd.f125.name, by decide, Tryd.func125.trans (congrArg some (by kernel_rfl))⟩
 f25 := ⟨Tryd.f126.name, by decide, Tryd.func126.trans (congrArg some (by kernel_rfl))⟩
 f26 := ⟨Tryd.f127.name, by decide, Tryd.func127.trans (congrArg some (by kernel_rfl))⟩
 f27 := ⟨Tryd.f128.name, by decide, Tryd.func128.trans (congrArg some (by kernel_rfl))⟩
 f28 := Tryd.func129.trans (congrArg some (by kernel_rfl))
 f29 := Tryd.func130.trans (congrArg some (by kernel_rfl))
 f46 := ⟨Tryd.f146.name, by decide, Tryd.func146.trans (congrArg some (by kernel_rfl))⟩
 f47 := Tryd.func147.trans (congrArg some (by kernel_rfl))
 f48 := Tryd.func148.trans (congrArg some (by kernel_rfl))
 f49 := ⟨Tryd.f149.name, by decide, Tryd.func149.trans (congrArg some (by kernel_rfl))⟩
 f50 := ⟨Tryd.f150.name, by decide, Tryd.func150.trans (congrArg some (by kernel_rfl))⟩
 f57 := ⟨Tryd.f171.name, by decide, Tryd.func171.trans (congrArg some (by kernel_rfl))⟩
 t0 := Tryd.underlying0
 a0 := Tryd.isAgg0
 z0 := Tryd.sizeOf0
 v0 := Tryd.zeroValue0
 t3 := Tryd.underlying3
 a3 := Tryd.isAgg3
 z3 := Tryd.sizeOf3
 v3 := Tryd.zeroValue3
 t4 := Tryd.underlying4
 a4 := Tryd.isAgg4
 z4 := Tryd.sizeOf4
 v4 := Tryd.zeroValue4
 t5 := Tryd.underlying5
 a5 := Tryd.isAgg5
 z5 := Tryd.sizeOf5
 v5 := Tryd.zeroValue5
 t9 := Tryd.underlying9
 a9 := Tryd.isAgg9
 z9 := Tryd.sizeOf9
 v9 := Tryd.zeroValue9
 t22 := Tryd.underlying36
 a22 := Tryd.isAgg36
 z22 := Tryd.sizeOf36
 v22 := Tryd.zeroValue36
 t25 := Tryd.underlying138
 a25 := Tryd.isAgg138
 z25 := Tryd.sizeOf138
 v25 := Tryd.zeroValue138
 t39 := Tryd.underlying49
 a39 := Tryd.isAgg49
 z39 := Tryd.sizeOf49
 v39 := Tryd.zeroValue49
 t45 := Tryd.underlying205
 a45 := Tryd.isAgg205
 z45 := Tryd.sizeOf205
 v45 := Tryd.zeroValue205
 t46 := Tryd.underlying206
 a46 := Tryd.isAgg206
 z46 := Tryd.sizeOf206
 v46 := Tryd.zeroValue206
 t50 := Tryd.underlying149
 a50 := Tryd.isAgg149
 z50 := Tryd.sizeOf149
 v50 := Tryd.zeroValue149
 t53 := Tryd.underlying40
 a53 := Tryd.isAgg40
 z53 := Tryd.sizeOf40
 v53 := Tryd.zeroValue40
 t55 := Tryd.underlying143
 a55 := Tryd.isAgg143
 z55 := Tryd.sizeOf143
 v55 := Tryd.zeroValue143
 t66 := Tryd.underlying229
 a66 := Tryd.isAgg229
 z66 := Tryd.sizeOf229
 v66 := Tryd.zeroValue229
 t70 := Tryd.underlying233
 a70 := Tryd.isAgg233
 z70 := Tryd.sizeOf233
 v70 := Tryd.zeroValue233
 t76 := Tryd.underlying246
 a76 := Tryd.isAgg246
 z76 := Tryd.sizeOf246
 v76 := Tryd.zeroValue246
 t77 := Tryd.underlying94
 a77 := Tryd.isAgg94
 z77 := Tryd.sizeOf94
 v77 := Tryd.zeroValue94 }
end Go.Proofs


namespace Go.Proofs.YtmlompedpahkjaaDoor
open Go.RowKit
variable [BA]
set_option linter.unusedSectionVars false
set_option linter.unusedVariables false

theorem Xw {P : Program} {c : Ctx} {w : World} {l : List UInt8} {v : Value} (h : Rep c w (slB l) v) : (Extern.Bytes.bytesOf v).run P w = .ok ⟨l.toArray⟩ w := by
 obtain ⟨hw, hr⟩ := h.sl
 rcases hr with ⟨he, ad, cap, rfl, _⟩ | ⟨b, off, cap, us, rfl, h3, h4, h5, h6, h7⟩
 ·have hl : l = [] := by simpa using he
  subst hl
  cases ad with
  | none => rfl
  | some a => rfl
 ·have hb := Ee (fun y hy => by obtain ⟨b, _, rfl⟩ := List.mem_map.1 hy; exact U5 b) h6
  rw [J5] at hb
  have hl := Lib.run_loadBytesX (P := P) w (l.map fun b : UInt8 => (b.toNat : Int)) ⟨b, off, none⟩ .empty (fun j x hj => by
   rw [CJ]
   refine h7 j _ ?_
   rw [hb, List.getElem?_map]
   rw [List.getElem?_map] at hj
   cases hg : l[j]? with
   | none => rw [hg] at hj; cases hj
   | some y => rw [hg] at hj; cases hj; rfl)
  have e2 : Lib.bytesOf (l.map fun b : UInt8 => (b.toNat : Int)) = l := by simp [Lib.bytesOf, List.map_map, Function.comp_def]
  rw [e2] at hl
  simp only [List.length_map] at hl ⊢
  simp only [Extern.Bytes.bytesOf]
  rw [hl]
  congr 1
  apply ByteArray.ext
  show (#[] : Array UInt8) ++ l.toArray = l.toArray
  simp
theorem UG {P : Program} {w : World} {u v : Value} {a b : List UInt8} (h1 : (Extern.Bytes.bytesOf u).run P w = .ok ⟨a.toArray⟩ w) (h2 : (Extern.Bytes.bytesOf v).run P w = .ok ⟨b.toArray⟩ w) : (Extern.BytealgCompare.compare #[u, v]).run P w = .ok (.int .i64 (Lib.compareBytes a b)) w := by
 change Sem.run P (do pure (goInt (Extern.BytealgCompare.cmp (← Extern.Bytes.bytesOf u) (← Extern.Bytes.bytesOf v)))) w = _
 simp only [Sem.run_bind, Sem.run_pure, h1, h2, Result.andThen]
 rw [Lib.cmp_eq]
 rfl
set_option maxHeartbeats 2000000 in
set_option maxRecDepth 100000 in
theorem Xu (u v : Value) (z : Int) (w : World) (h : (Extern.BytealgCompare.compare #[u, v]).run Tryd.prog w = .ok (.int .i64 z) w) :
  Calls Tryd.prog 74 #[u, v] w fun e w' => e = .returned (.int .i64 z) ∧ w' = w := by
 go_enter Tryd.func74, Tryd.ntmps74
 go_wp2
 rw [run_callFunc_extern Tryd.func104 (by kernel_rfl) (by kernel_rfl) (by kernel_rfl) (e := Extern.BytealgCompare.compare) (by kernel_rfl), h]
 simp only [Result.andThen]
 rw [Oper.upon_value]
 go_wp2
 go_ret
 exact ⟨rfl, rfl⟩
theorem AhY (a b : List UInt8) : D5 Tryd.prog 74 [slB a, slB b] (fun x => x = .val (.int .i64 (Lib.compareBytes a b))) := by
 intro β F w vs hF hv
 obtain ⟨v, us, rfl, h1, hv⟩ := Bg.cons.1 hv
 obtain ⟨v2, us, rfl, h2, hv⟩ := Bg.cons.1 hv
 rw [Bg.nil] at hv; subst hv
 refine (Xu v v2 _ w (UG (Xw (Or.inl h1)) (Xw (Or.inl h2)))).mono ?_
 rintro e w' ⟨rfl, rfl⟩
 exact ⟨_, _, F, rfl, rfl, Rep.of_val, ⟨rfl, rfl, rfl, Nat.le_refl _, fun _ _ => rfl, fun _ h => h, fun _ _ h => h, hF.1⟩⟩
theorem Afn {w : World} {o1 o2 : Obj} : ((w.alloc o1).alloc o2).heap[w.heap.size]? = some o1 ∧ ((w.alloc o1).alloc o2).heap[w.heap.size + 1]? = some o2 := by
 constructor
 ·show ((w.heap.push o1).push o2)[w.heap.size]? = some o1
  rw [Array.getElem?_push, if_neg (by simp), Array.getElem?_push, if_pos rfl]
 ·show ((w.heap.push o1).push o2)[w.heap.size + 1]? = some o2
  rw [Array.getElem?_push, if_pos (by simp)]
theorem Ahc {w : World} {o1 o2 : Obj} : ((w.alloc o1).alloc o2).drew = Sort.grow (w.drewN 1) #[o1, o2] := by
 have e : w.heap ++ #[o1, o2] = (w.heap.push o1).push o2 := by apply Array.ext'; simp
 show _ = { w.drewN 1 with heap := w.heap ++ #[o1, o2] }
 rw [e]; rfl
theorem UH {P : Program} {W : World} {b n c : Nat} {t : TypeId} {fr : Nat × Nat} {l : List UInt8} {r : List Value} (h : W.heap[b]? = some (.cells ((l.map fun b => Value.int .u8 b.toNat) ++ r).toArray t fr)) (hn : n = l.length) : (Extern.Bytes.bytesOf (.slice (some ⟨b, 0, none⟩) n c)).run P W = .ok ⟨l.toArray⟩ W := by
 subst hn
 have hc : Cf W b 0 (l.map fun b => Value.int .u8 b.toNat) := by
  have := Ff (w := W) (b := b) (pre := []) (a := []) (m := l.map fun b => Value.int .u8 b.toNat) (q := []) (post := r) (t := t) (fr := fr) (by simpa using h)
  simpa using this
 have hl := Lib.run_loadBytesX (P := P) W (l.map fun b : UInt8 => (b.toNat : Int)) ⟨b, 0, none⟩ .empty (fun j x hj => by
  rw [CJ]
  refine hc j _ ?_
  rw [List.getElem?_map] at hj ⊢
  cases hg : l[j]? with
  | none => rw [hg] at hj; cases hj
  | some y => rw [hg] at hj; cases hj; rfl)
 have e2 : Lib.bytesOf (l.map fun b : UInt8 => (b.toNat : Int)) = l := by simp [Lib.bytesOf, List.map_map, Function.comp_def]
 rw [e2] at hl
 simp only [List.length_map] at hl ⊢
 simp only [Extern.Bytes.bytesOf]
 rw [hl]
 congr 1
 apply ByteArray.ext
 show (#[] : Array UInt8) ++ l.toArray = l.toArray
 simp
end Go.Proofs.YtmlompedpahkjaaDoor


namespace Go.Proofs.YtmlompedpahkjaaDoor
open Go.RowKit Go.Sort
variable [BA]
set_option linter.unusedSectionVars false
set_option linter.unusedVariables false

def plT (p : Pl) : TV := .agg [.arr 20 1 (p.id.map by8), .val (.int .i64 p.off), .val (.int .u32 (p.crc : Int))]
theorem BB (p : Pl) : plT p = .agg [.arr 20 1 (p.id.map by8), .val (.int .i64 p.off), .val (.int .u32 (p.crc : Int))] := Aa rfl
abbrev PlS := {p : Pl // p.id.length = 20}
instance : Inhabited PlS := ⟨⟨⟨List.replicate 20 0, 0, 0⟩, by simp⟩⟩
def Rk (x : PlS) : List Value := (x.1.id.map fun b => Value.int .u8 b.toNat) ++ [.int .i64 x.1.off, .int .u32 (x.1.crc : Int)]
def AlC (x y : PlS) : Int := Lib.compareBytes x.1.id y.1.id
theorem AoX (x y : PlS) : ltOf AlC x y = decide (ltB x.1.id y.1.id) := by
 unfold ltOf AlC
 exact decide_eq_decide.2 Yc
theorem Anx : SWO (ltOf AlC) where
 irrefl x := by rw [AoX]; simpa using Ig x.1.id
 trans x y z h1 h2 := by
  rw [AoX, decide_eq_true_eq] at *
  exact Fa h1 h2
 ntrans x y z h1 h2 := by
  rw [AoX, decide_eq_false_iff_not] at *
  intro h3
  by_cases h4 : ltB y.1.id x.1.id
  ·exact h2 (Fa h4 h3)
  ·have e := We h1 h4
   rw [e] at h3; exact h2 h3
theorem AqZ (c : Ctx) (w : World) (x : PlS) (us : List Value) : Ak c w (plT x.1) us ↔ us = Rk x := by
 unfold plT Rk
 constructor
 ·intro h
  rw [Ak, Aj] at h
  obtain ⟨a, b, rfl, h1, h⟩ := h
  rw [Aj] at h
  obtain ⟨a2, b2, rfl, h2, h⟩ := h
  rw [Aj] at h
  obtain ⟨a3, b3, rfl, h3, h⟩ := h
  rw [Aj] at h
  subst h
  rw [Ak] at h1; rw [Ak] at h2; rw [Ak] at h3
  obtain ⟨_, _, h1⟩ := h1
  have := Ee (fun y hy => by obtain ⟨b, _, rfl⟩ := List.mem_map.1 hy; exact U5 b) h1
  rw [J5] at this
  rw [this, h2.1, h3.1]; rfl
 ·intro e
  have q1 : Ak c w (.arr 20 1 (x.1.id.map by8)) (x.1.id.map fun b => Value.int .u8 b.toNat) := by
   rw [Ak]
   exact ⟨by rw [List.length_map]; exact x.2, fun y hy => by obtain ⟨b, _, rfl⟩ := List.mem_map.1 hy; rfl, DN _⟩
  have q2 : Ak c w (.val (.int .i64 x.1.off)) [.int .i64 x.1.off] := by rw [Ak]; exact ⟨rfl, rfl⟩
  have q3 : Ak c w (.val (.int .u32 (x.1.crc : Int))) [.int .u32 (x.1.crc : Int)] := by rw [Ak]; exact ⟨rfl, rfl⟩
  have q4 : Aj c w [.val (.int .u32 (x.1.crc : Int))] [.int .u32 (x.1.crc : Int)] := by rw [Aj]; exact ⟨_, [], rfl, q3, by rw [Aj]⟩
  have q5 : Aj c w [.val (.int .i64 x.1.off), .val (.int .u32 (x.1.crc : Int))] [.int .i64 x.1.off, .int .u32 (x.1.crc : Int)] := by rw [Aj]; exact ⟨_, _, rfl, q2, q4⟩
  rw [Ak, Aj]
  exact ⟨_, _, e, q1, q5⟩
set_option maxHeartbeats 2000000 in
set_option maxRecDepth 100000 in
theorem Adn (x y : PlS) (w : World) : Calls Tryd.prog 73 #[.agg (Rk x).toArray, .agg (Rk y).toArray] w fun e w' => e = .returned (.int .i64 (AlC x y)) ∧ ∃ q os', w' = Sort.grow (w.drewN q) os' := by
 have hcon : ∀ (t1 t2 : TypeId) (c1 c2 : Nat) (W : World), W.heap = ((w.alloc (.cells (Rk x).toArray t1)).alloc (.cells (Rk y).toArray t2)).heap → Calls Tryd.prog 74 #[.slice (some ⟨w.heap.size, 0, none⟩) 20 c1, .slice (some ⟨w.heap.size + 1, 0, none⟩) 20 c2] W fun e w' => e = .returned (.int .i64 (AlC x y)) ∧ w' = W :=
  fun t1 t2 c1 c2 W hW => Xu _ _ _ W (UG (UH (by rw [hW]; exact Afn.1) x.2.symm) (UH (by rw [hW]; exact Afn.2) y.2.symm))
 generalize AlC x y = z at *
 have lx : (Rk x).toArray.size = 22 := by simp [Rk, x.2]
 have ly : (Rk y).toArray.size = 22 := by simp [Rk, y.2]
 generalize (Rk x).toArray = xs at *
 generalize (Rk y).toArray = ys at *
 go_enter Tryd.func73, Tryd.ntmps73
 go_wp2
 go_region_with (go_at_call 74; refine Calls.mono (hcon 42 42 _ _ _ (by rfl)) ?_; rintro e w' ⟨rfl, rfl⟩)
 go_wp2
 go_ret
 exact ⟨rfl, 1, #[.cells xs 42, .cells ys 42], Ahc⟩
theorem Am5 {id ver N cp : Nat} {d : List Pl} {H : List Ob} {K : TV → List Ob → Prop} (h20 : ∀ p ∈ d, p.id.length = 20) (hid : H[id]? = some (.obj ver (.arr N 22 (d.map plT)))) (hb : d.length ≤ 100000)
  (hK : ∀ s : List Pl, s.Perm d → s.Pairwise (fun x y => ¬ ltB y.id x.id) → K (.tup []) (H.set id (.obj ver (.arr N 22 (s.map plT))))) : Ap Tryd.prog 72 [.os 22 id ver [] 0 d.length cp, .val (.func (.func 73) #[] #[])] H K := by
 have he : ∃ d' : List PlS, d'.map (·.1) = d := ⟨d.attachWith _ h20, by simp⟩
 obtain ⟨d', rfl⟩ := he
 have e1 : ∀ l : List PlS, (l.map (·.1)).map plT = l.map fun x => plT x.1 := fun l => by simp [Function.comp_def]
 have hs := Abh Anx d'
 have hk := hK ((Jn AlC d').map (·.1)) (hs.1.map _) (List.pairwise_map.2 (hs.2.imp fun h => by rw [AoX] at h; simpa using h))
 rw [e1] at hid hk
 refine Aao Tryd.sortL (k := 22) (fun w => Tryd.isAgg42 w) (fun w => Tryd.sizeOf42 w) (enc := Rk) (fun x => by unfold Rk; simp [x.2]) (fun x v hv => ?_) (eT := fun x => plT x.1) (fun x => rfl) AqZ Anx (g := 73) (enters_of Tryd.func73 (by kernel_rfl) rfl)
  (fun β F w v _ h => ⟨#[], Rep.val.1 (Or.inl h), fun blk off size m os dk _ x y => Adn x y _⟩) (rest := []) (by rw [hid, List.append_nil]) (by simp) (by simpa using Nat.lt_of_le_of_lt hb (by omega)) (by rw [List.append_nil]; exact hk)
 unfold Rk at hv
 rcases List.mem_append.1 hv with hv | hv
 ·obtain ⟨b, _, rfl⟩ := List.mem_map.1 hv; rfl
 ·simp at hv
  rcases hv with rfl | rfl <;> rfl
end Go.Proofs.YtmlompedpahkjaaDoor


namespace Go.Proofs.YtmlompedpahkjaaDoor
open Go.RowKit
variable [BA]
set_option linter.unusedSectionVars false
set_option linter.unusedVariables false
set_option linter.unusedSimpArgs false

set_option maxRecDepth 100000 in
theorem TL {t : TypeId} (ht : Tryd.prog.underlying t = some (.array 20 5)) (hn : Tryd.prog.cellsOf t = 20) : IB Tryd.prog t (fun l : List UInt8 => .arr 20 1 (l.map by8)) (fun l => l.length = 20) :=
 Ii (Y5 ht (k := 1) (by kernel_rfl) (by rw [hn]) (YP Tryd.underlying5) (fun _ _ => rfl)) fun l h => ⟨l, rfl, h.1⟩
set_option maxRecDepth 100000 in
theorem Yz : IB Tryd.prog 36 (fun l : List Pl => .sl 22 (l.map plT)) (fun l => ∀ p ∈ l, p.id.length = 20 ∧ p.crc < 4294967296) := by
 refine Ii (Uu (k := 22) (B := Tryd.prog.bytesOf 42) Tryd.underlying36 (by kernel_rfl) rfl (ok := fun p : Pl => p.id.length = 20 ∧ p.crc < 4294967296) (f := plT) ?_ (fun a _ => by simp [plT, Aw, BD]) (by decide)) fun l h => ⟨l, rfl, h.1⟩
 refine Ii (YE Tryd.underlying42 (by kernel_rfl) (OT (off := 0) (n := 20) rfl (by kernel_rfl) (TL Tryd.underlying38 (by kernel_rfl)) (OT (off := 20) (n := 1) rfl (by kernel_rfl)
  (AcA Tryd.underlying3)
  (OT (off := 21) (n := 1) rfl (by kernel_rfl) (TU Tryd.underlying40) Aay)))) fun x h => ?_
 obtain ⟨i, o, c, u⟩ := x
 obtain ⟨h1, h2, h3, _⟩ := h
 have e1 : IntKind.u32.min = 0 := by decide
 have e2 : IntKind.u32.max = 4294967295 := by decide
 simp [Lit.wf, e1, e2] at h3
 refine ⟨⟨i, o, c.toNat⟩, ?_, h1, by simp only; omega⟩
 rw [BB]
 simp only
 rw [Int.toNat_of_nonneg (by omega)]
end Go.Proofs.YtmlompedpahkjaaDoor


namespace Go.Proofs.YtmlompedpahkjaaDoor
variable [BA]
set_option linter.unusedSectionVars false
set_option linter.unusedVariables false
set_option linter.defProp false
set_option maxRecDepth 100000

def KE : Af := .seq (.seq (.draw 18 [po_ 35 (.fieldA 1 20 (.t 8)),
  po_ 36 (.load false 1 (.t 35)),
  po_ 37 (.bin 3 .lss (.t 36) (ci_ 0)),
  mv_ 38 37,
  ⟨some 39, .p (.fieldA 1 20 (.t 8)), some ⟨38, false⟩⟩,
  ⟨some 40, .p (.load false 1 (.t 39)), some ⟨38, false⟩⟩,
  ⟨some 41, .p (.bin 3 .geq (.t 40) (ci_ 2147483648)), some ⟨38, false⟩⟩,
  po_ 42 (.pick (.t 38) (.c (.bool true)) (.t 41)),
  mv_ 43 42,
  ⟨some 44, .p (.mov (.t 7)), some ⟨43, false⟩⟩,
  ⟨some 45, .p (.bin 3 .gtr (.t 44) (ci_ 0)), some ⟨43, false⟩⟩,
  ⟨some 46, .p (.mov (.t 45)), some ⟨43, false⟩⟩,
  ⟨some 47, .p (.mov (.t 0)), some ⟨46, true⟩⟩,
  ⟨some 48, .p (.mov (.t 7)), some ⟨46, true⟩⟩,
  ⟨some 49, .p (.bin 3 .sub (.t 48) (ci_ 1)), some ⟨46, true⟩⟩,
  ⟨some 50, .p (.idxA 22 (.t 47) (.t 49)), some ⟨46, true⟩⟩,
  ⟨some 51, .p (.fieldA 0 0 (.t 50)), some ⟨46, true⟩⟩,
  ⟨some 52, .p (.load true 20 (.t 51)), some ⟨46, true⟩⟩,
  ⟨some 53, .p (.fieldA 0 0 (.t 8)), some ⟨46, true⟩⟩,
  ⟨some 54, .p (.load true 20 (.t 53)), some ⟨46, true⟩⟩,
  ⟨some 55, .p (.gen (.eqA 20 false) [.t 52, .t 54]), some ⟨46, true⟩⟩,
  ⟨some 56, .p (.pick (.t 46) (.t 55) (.c (.bool false))), some ⟨43, false⟩⟩,
  po_ 57 (.pick (.t 43) (.c (.bool true)) (.t 56))] [0, 3, 6, 8, 28, 29, 30, 57])
 (.cond (.t 57)
 (.seq (.ops [po_ 58 (.iface 32 (ci_ 42)),
   po_ 4 (.mov (.c (.slice none 0 0))),
   mv_ 5 58] [4, 5])
  (.ret))
 (.skip)))
 (.ops [po_ 59 (.fieldA 0 0 (.t 8)),
  po_ 60 (.idxAA 20 1 (.t 59) (ci_ 0)),
  po_ 61 (.load false 1 (.t 60)),
  po_ 62 (.idxAA 256 1 (.t 6) (.t 61)),
  po_ 63 (.load false 1 (.t 62)),
  po_ 64 (.bin 40 .add (.t 63) (.c (.int .u32 ((1 : Nat) : Int)))),
  po_ 65 (.idxAA 256 1 (.t 6) (.t 61)),
  ⟨none, .s (.store 1 (.t 65) (.t 64)), none⟩] [0, 3, 6, 28, 29, 30])
def JA : Af := .seq (.block 1 (.seq (.ops [mv_ 32 30,
  po_ 33 (.idxA 22 (.t 28) (.t 30)),
  po_ 34 (.load true 22 (.t 33)),
  so_ 8 (.alloc (.agg [.arr 20 1 [.val (.int .u8 ((0 : Nat) : Int)), .val (.int .u8 ((0 : Nat) : Int)), .val (.int .u8 ((0 : Nat) : Int)), .val (.int .u8 ((0 : Nat) : Int)), .val (.int .u8 ((0 : Nat) : Int)), .val (.int .u8 ((0 : Nat) : Int)), .val (.int .u8 ((0 : Nat) : Int)), .val (.int .u8 ((0 : Nat) : Int)), .val (.int .u8 ((0 : Nat) : Int)), .val (.int .u8 ((0 : Nat) : Int)), .val (.int .u8 ((0 : Nat) : Int)), .val (.int .u8 ((0 : Nat) : Int)), .val (.int .u8 ((0 : Nat) : Int)), .val (.int .u8 ((0 : Nat) : Int)), .val (.int .u8 ((0 : Nat) : Int)), .val (.int .u8 ((0 : Nat) : Int)), .val (.int .u8 ((0 : Nat) : Int)), .val (.int .u8 ((0 : Nat) : Int)), .val (.int .u8 ((0 : Nat) : Int)), .val (.int .u8 ((0 : Nat) : Int))], .val (.int .i64 ((0 : Nat) : Int)), .val (.int .u32 ((0 : Nat) : Int))])),
  mv_ 7 32,
  ⟨none, .s (.store 22 (.t 8) (.t 34)), none⟩] [0, 3, 6, 7, 8, 28, 29, 30])
 KE))
 (.ops [po_ 66 (.bin 3 .add (.t 30) (ci_ 1)),
  mv_ 30 66] [0, 3, 6, 28, 29, 30])
def JZ : Af := .seq (.cond (.t 31)
 (.skip)
 (.exit 0))
 JA
def Kz : Af := .seq (.ops [po_ 31 (.bin 3 .lss (.t 30) (.t 29))] [0, 3, 6, 28, 29, 30, 31])
 JZ
def Kr : Af := .block 0 (.loop [0, 3, 6, 28, 29, 30] Kz)
def J9 : Af := .seq (.ops [po_ 72 (.bin 3 .lss (.t 71) (ci_ 256))] [0, 3, 9, 10, 70, 71, 72])
 (.seq (.cond (.t 72)
 (.skip)
 (.exit 2))
 (.seq (.block 3 (.seq (.ops [po_ 73 (.idx false 256 1 (.t 70) (.t 71)),
  mv_ 12 73] [0, 3, 9, 10, 12, 70, 71])
 (.seq (.ops [mv_ 74 10,
  mv_ 75 12,
  po_ 76 (.bin 40 .add (.t 74) (.t 75)),
  mv_ 10 76] [0, 3, 9, 10, 70, 71])
 (.ops [mv_ 77 9,
  mv_ 78 10,
  so_ 79 (.call 35 [.t 77, .t 78]),
  mv_ 9 79] [0, 3, 9, 10, 70, 71]))))
 (.ops [po_ 80 (.bin 3 .add (.t 71) (ci_ 1)),
  mv_ 71 80] [0, 3, 9, 10, 70, 71])))
def JE : Af := .block 2 (.loop [0, 3, 9, 10, 70, 71] J9)
def JV : Af := .seq (.ops [po_ 84 (.bin 3 .lss (.t 83) (.t 82))] [0, 3, 9, 81, 82, 83, 84])
 (.seq (.cond (.t 84)
 (.skip)
 (.exit 4))
 (.seq (.block 5 (.seq (.ops [po_ 85 (.idxA 22 (.t 81) (.t 83)),
  po_ 86 (.load true 22 (.t 85)),
  so_ 14 (.alloc (.agg [.arr 20 1 [.val (.int .u8 ((0 : Nat) : Int)), .val (.int .u8 ((0 : Nat) : Int)), .val (.int .u8 ((0 : Nat) : Int)), .val (.int .u8 ((0 : Nat) : Int)), .val (.int .u8 ((0 : Nat) : Int)), .val (.int .u8 ((0 : Nat) : Int)), .val (.int .u8 ((0 : Nat) : Int)), .val (.int .u8 ((0 : Nat) : Int)), .val (.int .u8 ((0 : Nat) : Int)), .val (.int .u8 ((0 : Nat) : Int)), .val (.int .u8 ((0 : Nat) : Int)), .val (.int .u8 ((0 : Nat) : Int)), .val (.int .u8 ((0 : Nat) : Int)), .val (.int .u8 ((0 : Nat) : Int)), .val (.int .u8 ((0 : Nat) : Int)), .val (.int .u8 ((0 : Nat) : Int)), .val (.int .u8 ((0 : Nat) : Int)), .val (.int .u8 ((0 : Nat) : Int)), .val (.int .u8 ((0 : Nat) : Int)), .val (.int .u8 ((0 : Nat) : Int))], .val (.int .i64 ((0 : Nat) : Int)), .val (.int .u32 ((0 : Nat) : Int))])),
  ⟨none, .s (.store 22 (.t 14) (.t 86)), none⟩] [0, 3, 9, 14, 81, 82, 83])
 (.ops [mv_ 87 9,
  po_ 88 (.fieldA 0 0 (.t 14)),
  po_ 89 (.slA 20 1 (.t 88) none none),
  so_ 90 (.app 1 1 5 (.t 87) (.t 89)),
  mv_ 9 90] [0, 3, 9, 81, 82, 83])))
 (.ops [po_ 91 (.bin 3 .add (.t 83) (ci_ 1)),
  mv_ 83 91] [0, 3, 9, 81, 82, 83])))
def JF : Af := .seq (.ops [po_ 95 (.bin 3 .lss (.t 94) (.t 93))] [0, 3, 9, 92, 93, 94, 95])
 (.seq (.cond (.t 95)
 (.skip)
 (.exit 6))
 (.seq (.block 7 (.seq (.ops [po_ 96 (.idxA 22 (.t 92) (.t 94)),
  po_ 97 (.load true 22 (.t 96)),
  so_ 16 (.alloc (.agg [.arr 20 1 [.val (.int .u8 ((0 : Nat) : Int)), .val (.int .u8 ((0 : Nat) : Int)), .val (.int .u8 ((0 : Nat) : Int)), .val (.int .u8 ((0 : Nat) : Int)), .val (.int .u8 ((0 : Nat) : Int)), .val (.int .u8 ((0 : Nat) : Int)), .val (.int .u8 ((0 : Nat) : Int)), .val (.int .u8 ((0 : Nat) : Int)), .val (.int .u8 ((0 : Nat) : Int)), .val (.int .u8 ((0 : Nat) : Int)), .val (.int .u8 ((0 : Nat) : Int)), .val (.int .u8 ((0 : Nat) : Int)), .val (.int .u8 ((0 : Nat) : Int)), .val (.int .u8 ((0 : Nat) : Int)), .val (.int .u8 ((0 : Nat) : Int)), .val (.int .u8 ((0 : Nat) : Int)), .val (.int .u8 ((0 : Nat) : Int)), .val (.int .u8 ((0 : Nat) : Int)), .val (.int .u8 ((0 : Nat) : Int)), .val (.int .u8 ((0 : Nat) : Int))], .val (.int .i64 ((0 : Nat) : Int)), .val (.int .u32 ((0 : Nat) : Int))])),
  ⟨none, .s (.store 22 (.t 16) (.t 97)), none⟩] [0, 3, 9, 16, 92, 93, 94])
 (.ops [mv_ 98 9,
  po_ 99 (.fieldA 2 21 (.t 16)),
  po_ 100 (.load false 1 (.t 99)),
  so_ 101 (.call 35 [.t 98, .t 100]),
  mv_ 9 101] [0, 3, 9, 92, 93, 94])))
 (.ops [po_ 102 (.bin 3 .add (.t 94) (ci_ 1)),
  mv_ 94 102] [0, 3, 9, 92, 93, 94])))
def Iw : Af := .seq (.ops [po_ 106 (.bin 3 .lss (.t 105) (.t 104))] [3, 9, 103, 104, 105, 106])
 (.seq (.cond (.t 106)
 (.skip)
 (.exit 8))
 (.seq (.block 9 (.seq (.ops [po_ 107 (.idxA 22 (.t 103) (.t 105)),
  po_ 108 (.load true 22 (.t 107)),
  so_ 18 (.alloc (.agg [.arr 20 1 [.val (.int .u8 ((0 : Nat) : Int)), .val (.int .u8 ((0 : Nat) : Int)), .val (.int .u8 ((0 : Nat) : Int)), .val (.int .u8 ((0 : Nat) : Int)), .val (.int .u8 ((0 : Nat) : Int)), .val (.int .u8 ((0 : Nat) : Int)), .val (.int .u8 ((0 : Nat) : Int)), .val (.int .u8 ((0 : Nat) : Int)), .val (.int .u8 ((0 : Nat) : Int)), .val (.int .u8 ((0 : Nat) : Int)), .val (.int .u8 ((0 : Nat) : Int)), .val (.int .u8 ((0 : Nat) : Int)), .val (.int .u8 ((0 : Nat) : Int)), .val (.int .u8 ((0 : Nat) : Int)), .val (.int .u8 ((0 : Nat) : Int)), .val (.int .u8 ((0 : Nat) : Int)), .val (.int .u8 ((0 : Nat) : Int)), .val (.int .u8 ((0 : Nat) : Int)), .val (.int .u8 ((0 : Nat) : Int)), .val (.int .u8 ((0 : Nat) : Int))], .val (.int .i64 ((0 : Nat) : Int)), .val (.int .u32 ((0 : Nat) : Int))])),
  ⟨none, .s (.store 22 (.t 18) (.t 108)), none⟩] [3, 9, 18, 103, 104, 105])
 (.ops [mv_ 109 9,
  po_ 110 (.fieldA 1 20 (.t 18)),
  po_ 111 (.load false 1 (.t 110)),
  po_ 112 (.conv .u32 (.t 111)),
  so_ 113 (.call 35 [.t 109, .t 112]),
  mv_ 9 113] [3, 9, 103, 104, 105])))
 (.ops [po_ 114 (.bin 3 .add (.t 105) (ci_ 1)),
  mv_ 105 114] [3, 9, 103, 104, 105])))
def Ik : Af := .block 8 (.loop [3, 9, 103, 104, 105] Iw)
def ED : Af := .seq (.ops [mv_ 115 9,
  po_ 116 (.slA 20 1 (.t 3) none none),
  so_ 117 (.app 1 1 5 (.t 115) (.t 116)),
  mv_ 9 117] [9])
 (.seq (.ops [mv_ 118 9,
  so_ 119 (.call 36 [.t 118]),
  so_ 19 (.alloc (.arr 20 1 [.val (.int .u8 ((0 : Nat) : Int)), .val (.int .u8 ((0 : Nat) : Int)), .val (.int .u8 ((0 : Nat) : Int)), .val (.int .u8 ((0 : Nat) : Int)), .val (.int .u8 ((0 : Nat) : Int)), .val (.int .u8 ((0 : Nat) : Int)), .val (.int .u8 ((0 : Nat) : Int)), .val (.int .u8 ((0 : Nat) : Int)), .val (.int .u8 ((0 : Nat) : Int)), .val (.int .u8 ((0 : Nat) : Int)), .val (.int .u8 ((0 : Nat) : Int)), .val (.int .u8 ((0 : Nat) : Int)), .val (.int .u8 ((0 : Nat) : Int)), .val (.int .u8 ((0 : Nat) : Int)), .val (.int .u8 ((0 : Nat) : Int)), .val (.int .u8 ((0 : Nat) : Int)), .val (.int .u8 ((0 : Nat) : Int)), .val (.int .u8 ((0 : Nat) : Int)), .val (.int .u8 ((0 : Nat) : Int)), .val (.int .u8 ((0 : Nat) : Int))])),
  ⟨none, .s (.store 20 (.t 19) (.t 119)), none⟩] [9, 19])
 (.seq (.ops [mv_ 120 9,
  po_ 121 (.slA 20 1 (.t 19) none none),
  so_ 122 (.app 1 1 5 (.t 120) (.t 121)),
  mv_ 4 122,
  po_ 5 (.mov (.c .nilIface))] [4, 5])
 (.ret)))
def Ej : Af := .seq (.seq (.ops [mv_ 103 0,
  po_ 104 (.lenV (.t 103)),
  po_ 105 (.mov (ci_ 0))] [3, 9, 103, 104, 105])
 Ik)
 ED
def Et : Af := .seq (.seq (.ops [mv_ 92 0,
  po_ 93 (.lenV (.t 92)),
  po_ 94 (.mov (ci_ 0))] [0, 3, 9, 92, 93, 94])
 (.block 6 (.loop [0, 3, 9, 92, 93, 94] JF)))
 Ej
def Ew : Af := .seq (.seq (.ops [mv_ 81 0,
  po_ 82 (.lenV (.t 81)),
  po_ 83 (.mov (ci_ 0))] [0, 3, 9, 81, 82, 83])
 (.block 4 (.own 9 1 (.loop [0, 3, 9, 81, 82, 83] JV))))
 Et
def I9 : Af := .seq (.seq (.ops [po_ 70 (.load true 256 (.t 6)),
  po_ 71 (.mov (ci_ 0))] [0, 3, 9, 10, 70, 71])
 JE)
 Ew
def Eh : Af := .seq (.ops [po_ 10 (.mov (.c (.int .u32 ((0 : Nat) : Int))))] [0, 3, 6, 9, 10])
 I9
def Ep : Af := .seq (.ops [⟨some 67, .s (.bslice 1 4 (.val (.int .u8 ((0 : Nat) : Int))) [⟨0, .c (.int .u8 ((255 : Nat) : Int))⟩, ⟨1, .c (.int .u8 ((116 : Nat) : Int))⟩, ⟨2, .c (.int .u8 ((79 : Nat) : Int))⟩, ⟨3, .c (.int .u8 ((99 : Nat) : Int))⟩]), none⟩,
  so_ 68 (.cvS (.t 67)),
  so_ 69 (.call 35 [.t 68, .c (.int .u32 ((2 : Nat) : Int))]),
  mv_ 9 69] [0, 3, 6, 9])
 Eh
def IM : Af := .seq (.seq (.ops [mv_ 28 0,
  po_ 29 (.lenV (.t 28)),
  po_ 30 (.mov (ci_ 0))] [0, 3, 6, 28, 29, 30])
 Kr)
 Ep
def Dv : Af := .seq (.ops [so_ 6 (.alloc (.arr 256 1 [.val (.int .u32 ((0 : Nat) : Int)), .val (.int .u32 ((0 : Nat) : Int)), .val (.int .u32 ((0 : Nat) : Int)), .val (.int .u32 ((0 : Nat) : Int)), .val (.int .u32 ((0 : Nat) : Int)), .val (.int .u32 ((0 : Nat) : Int)), .val (.int .u32 ((0 : Nat) : Int)), .val (.int .u32 ((0 : Nat) : Int)), .val (.int .u32 ((0 : Nat) : Int)), .val (.int .u32 ((0 : Nat) : Int)), .val (.int .u32 ((0 : Nat) : Int)), .val (.int .u32 ((0 : Nat) : Int)), .val (.int .u32 ((0 : Nat) : Int)), .val (.int .u32 ((0 : Nat) : Int)), .val (.int .u32 ((0 : Nat) : Int)), .val (.int .u32 ((0 : Nat) : Int)), .val (.int .u32 ((0 : Nat) : Int)), .val (.int .u32 ((0 : Nat) : Int)), .val (.int .u32 ((0 : Nat) : Int)), .val (.int .u32 ((0 : Nat) : Int)), .val (.int .u32 ((0 : Nat) : Int)), .val (.int .u32 ((0 : Nat) : Int)), .val (.int .u32 ((0 : Nat) : Int)), .val (.int .u32 ((0 : Nat) : Int)), .val (.int .u32 ((0 : Nat) : Int)), .val (.int .u32 ((0 : Nat) : Int)), .val (.int .u32 ((0 : Nat) : Int)), .val (.int .u32 ((0 : Nat) : Int)), .val (.int .u32 ((0 : Nat) : Int)), .val (.int .u32 ((0 : Nat) : Int)), .val (.int .u32 ((0 : Nat) : Int)), .val (.int .u32 ((0 : Nat) : Int)), .val (.int .u32 ((0 : Nat) : Int)), .val (.int .u32 ((0 : Nat) : Int)), .val (.int .u32 ((0 : Nat) : Int)), .val (.int .u32 ((0 : Nat) : Int)), .val (.int .u32 ((0 : Nat) : Int)), .val (.int .u32 ((0 : Nat) : Int)), .val (.int .u32 ((0 : Nat) : Int)), .val (.int .u32 ((0 : Nat) : Int)), .val (.int .u32 ((0 : Nat) : Int)), .val (.int .u32 ((0 : Nat) : Int)), .val (.int .u32 ((0 : Nat) : Int)), .val (.int .u32 ((0 : Nat) : Int)), .val (.int .u32 ((0 : Nat) : Int)), .val (.int .u32 ((0 : Nat) : Int)), .val (.int .u32 ((0 : Nat) : Int)), .val (.int .u32 ((0 : Nat) : Int)), .val (.int .u32 ((0 : Nat) : Int)), .val (.int .u32 ((0 : Nat) : Int)), .val (.int .u32 ((0 : Nat) : Int)), .val (.int .u32 ((0 : Nat) : Int)), .val (.int .u32 ((0 : Nat) : Int)), .val (.int .u32 ((0 : Nat) : Int)), .val (.int .u32 ((0 : Nat) : Int)), .val (.int .u32 ((0 : Nat) : Int)), .val (.int .u32 ((0 : Nat) : Int)), .val (.int .u32 ((0 : Nat) : Int)), .val (.int .u32 ((0 : Nat) : Int)), .val (.int .u32 ((0 : Nat) : Int)), .val (.int .u32 ((0 : Nat) : Int)), .val (.int .u32 ((0 : Nat) : Int)), .val (.int .u32 ((0 : Nat) : Int)), .val (.int .u32 ((0 : Nat) : Int)), .val (.int .u32 ((0 : Nat) : Int)), .val (.int .u32 ((0 : Nat) : Int)), .val (.int .u32 ((0 : Nat) : Int)), .val (.int .u32 ((0 : Nat) : Int)), .val (.int .u32 ((0 : Nat) : Int)), .val (.int .u32 ((0 : Nat) : Int)), .val (.int .u32 ((0 : Nat) : Int)), .val (.int .u32 ((0 : Nat) : Int)), .val (.int .u32 ((0 : Nat) : Int)), .val (.int .u32 ((0 : Nat) : Int)), .val (.int .u32 ((0 : Nat) : Int)), .val (.int .u32 ((0 : Nat) : Int)), .val (.int .u32 ((0 : Nat) : Int)), .val (.int .u32 ((0 : Nat) : Int)), .val (.int .u32 ((0 : Nat) : Int)), .val (.int .u32 ((0 : Nat) : Int)), .val (.int .u32 ((0 : Nat) : Int)), .val (.int .u32 ((0 : Nat) : Int)), .val (.int .u32 ((0 : Nat) : Int)), .val (.int .u32 ((0 : Nat) : Int)), .val (.int .u32 ((0 : Nat) : Int)), .val (.int .u32 ((0 : Nat) : Int)), .val (.int .u32 ((0 : Nat) : Int)), .val (.int .u32 ((0 : Nat) : Int)), .val (.int .u32 ((0 : Nat) : Int)), .val (.int .u32 ((0 : Nat) : Int)), .val (.int .u32 ((0 : Nat) : Int)), .val (.int .u32 ((0 : Nat) : Int)), .val (.int .u32 ((0 : Nat) : Int)), .val (.int .u32 ((0 : Nat) : Int)), .val (.int .u32 ((0 : Nat) : Int)), .val (.int .u32 ((0 : Nat) : Int)), .val (.int .u32 ((0 : Nat) : Int)), .val (.int .u32 ((0 : Nat) : Int)), .val (.int .u32 ((0 : Nat) : Int)), .val (.int .u32 ((0 : Nat) : Int)), .val (.int .u32 ((0 : Nat) : Int)), .val (.int .u32 ((0 : Nat) : Int)), .val (.int .u32 ((0 : Nat) : Int)), .val (.int .u32 ((0 : Nat) : Int)), .val (.int .u32 ((0 : Nat) : Int)), .val (.int .u32 ((0 : Nat) : Int)), .val (.int .u32 ((0 : Nat) : Int)), .val (.int .u32 ((0 : Nat) : Int)), .val (.int .u32 ((0 : Nat) : Int)), .val (.int .u32 ((0 : Nat) : Int)), .val (.int .u32 ((0 : Nat) : Int)), .val (.int .u32 ((0 : Nat) : Int)), .val (.int .u32 ((0 : Nat) : Int)), .val (.int .u32 ((0 : Nat) : Int)), .val (.int .u32 ((0 : Nat) : Int)), .val (.int .u32 ((0 : Nat) : Int)), .val (.int .u32 ((0 : Nat) : Int)), .val (.int .u32 ((0 : Nat) : Int)), .val (.int .u32 ((0 : Nat) : Int)), .val (.int .u32 ((0 : Nat) : Int)), .val (.int .u32 ((0 : Nat) : Int)), .val (.int .u32 ((0 : Nat) : Int)), .val (.int .u32 ((0 : Nat) : Int)), .val (.int .u32 ((0 : Nat) : Int)), .val (.int .u32 ((0 : Nat) : Int)), .val (.int .u32 ((0 : Nat) : Int)), .val (.int .u32 ((0 : Nat) : Int)), .val (.int .u32 ((0 : Nat) : Int)), .val (.int .u32 ((0 : Nat) : Int)), .val (.int .u32 ((0 : Nat) : Int)), .val (.int .u32 ((0 : Nat) : Int)), .val (.int .u32 ((0 : Nat) : Int)), .val (.int .u32 ((0 : Nat) : Int)), .val (.int .u32 ((0 : Nat) : Int)), .val (.int .u32 ((0 : Nat) : Int)), .val (.int .u32 ((0 : Nat) : Int)), .val (.int .u32 ((0 : Nat) : Int)), .val (.int .u32 ((0 : Nat) : Int)), .val (.int .u32 ((0 : Nat) : Int)), .val (.int .u32 ((0 : Nat) : Int)), .val (.int .u32 ((0 : Nat) : Int)), .val (.int .u32 ((0 : Nat) : Int)), .val (.int .u32 ((0 : Nat) : Int)), .val (.int .u32 ((0 : Nat) : Int)), .val (.int .u32 ((0 : Nat) : Int)), .val (.int .u32 ((0 : Nat) : Int)), .val (.int .u32 ((0 : Nat) : Int)), .val (.int .u32 ((0 : Nat) : Int)), .val (.int .u32 ((0 : Nat) : Int)), .val (.int .u32 ((0 : Nat) : Int)), .val (.int .u32 ((0 : Nat) : Int)), .val (.int .u32 ((0 : Nat) : Int)), .val (.int .u32 ((0 : Nat) : Int)), .val (.int .u32 ((0 : Nat) : Int)), .val (.int .u32 ((0 : Nat) : Int)), .val (.int .u32 ((0 : Nat) : Int)), .val (.int .u32 ((0 : Nat) : Int)), .val (.int .u32 ((0 : Nat) : Int)), .val (.int .u32 ((0 : Nat) : Int)), .val (.int .u32 ((0 : Nat) : Int)), .val (.int .u32 ((0 : Nat) : Int)), .val (.int .u32 ((0 : Nat) : Int)), .val (.int .u32 ((0 : Nat) : Int)), .val (.int .u32 ((0 : Nat) : Int)), .val (.int .u32 ((0 : Nat) : Int)), .val (.int .u32 ((0 : Nat) : Int)), .val (.int .u32 ((0 : Nat) : Int)), .val (.int .u32 ((0 : Nat) : Int)), .val (.int .u32 ((0 : Nat) : Int)), .val (.int .u32 ((0 : Nat) : Int)), .val (.int .u32 ((0 : Nat) : Int)), .val (.int .u32 ((0 : Nat) : Int)), .val (.int .u32 ((0 : Nat) : Int)), .val (.int .u32 ((0 : Nat) : Int)), .val (.int .u32 ((0 : Nat) : Int)), .val (.int .u32 ((0 : Nat) : Int)), .val (.int .u32 ((0 : Nat) : Int)), .val (.int .u32 ((0 : Nat) : Int)), .val (.int .u32 ((0 : Nat) : Int)), .val (.int .u32 ((0 : Nat) : Int)), .val (.int .u32 ((0 : Nat) : Int)), .val (.int .u32 ((0 : Nat) : Int)), .val (.int .u32 ((0 : Nat) : Int)), .val (.int .u32 ((0 : Nat) : Int)), .val (.int .u32 ((0 : Nat) : Int)), .val (.int .u32 ((0 : Nat) : Int)), .val (.int .u32 ((0 : Nat) : Int)), .val (.int .u32 ((0 : Nat) : Int)), .val (.int .u32 ((0 : Nat) : Int)), .val (.int .u32 ((0 : Nat) : Int)), .val (.int .u32 ((0 : Nat) : Int)), .val (.int .u32 ((0 : Nat) : Int)), .val (.int .u32 ((0 : Nat) : Int)), .val (.int .u32 ((0 : Nat) : Int)), .val (.int .u32 ((0 : Nat) : Int)), .val (.int .u32 ((0 : Nat) : Int)), .val (.int .u32 ((0 : Nat) : Int)), .val (.int .u32 ((0 : Nat) : Int)), .val (.int .u32 ((0 : Nat) : Int)), .val (.int .u32 ((0 : Nat) : Int)), .val (.int .u32 ((0 : Nat) : Int)), .val (.int .u32 ((0 : Nat) : Int)), .val (.int .u32 ((0 : Nat) : Int)), .val (.int .u32 ((0 : Nat) : Int)), .val (.int .u32 ((0 : Nat) : Int)), .val (.int .u32 ((0 : Nat) : Int)), .val (.int .u32 ((0 : Nat) : Int)), .val (.int .u32 ((0 : Nat) : Int)), .val (.int .u32 ((0 : Nat) : Int)), .val (.int .u32 ((0 : Nat) : Int)), .val (.int .u32 ((0 : Nat) : Int)), .val (.int .u32 ((0 : Nat) : Int)), .val (.int .u32 ((0 : Nat) : Int)), .val (.int .u32 ((0 : Nat) : Int)), .val (.int .u32 ((0 : Nat) : Int)), .val (.int .u32 ((0 : Nat) : Int)), .val (.int .u32 ((0 : Nat) : Int)), .val (.int .u32 ((0 : Nat) : Int)), .val (.int .u32 ((0 : Nat) : Int)), .val (.int .u32 ((0 : Nat) : Int)), .val (.int .u32 ((0 : Nat) : Int)), .val (.int .u32 ((0 : Nat) : Int)), .val (.int .u32 ((0 : Nat) : Int)), .val (.int .u32 ((0 : Nat) : Int)), .val (.int .u32 ((0 : Nat) : Int)), .val (.int .u32 ((0 : Nat) : Int)), .val (.int .u32 ((0 : Nat) : Int)), .val (.int .u32 ((0 : Nat) : Int)), .val (.int .u32 ((0 : Nat) : Int)), .val (.int .u32 ((0 : Nat) : Int)), .val (.int .u32 ((0 : Nat) : Int)), .val (.int .u32 ((0 : Nat) : Int)), .val (.int .u32 ((0 : Nat) : Int)), .val (.int .u32 ((0 : Nat) : Int)), .val (.int .u32 ((0 : Nat) : Int)), .val (.int .u32 ((0 : Nat) : Int)), .val (.int .u32 ((0 : Nat) : Int)), .val (.int .u32 ((0 : Nat) : Int)), .val (.int .u32 ((0 : Nat) : Int)), .val (.int .u32 ((0 : Nat) : Int)), .val (.int .u32 ((0 : Nat) : Int)), .val (.int .u32 ((0 : Nat) : Int)), .val (.int .u32 ((0 : Nat) : Int)), .val (.int .u32 ((0 : Nat) : Int)), .val (.int .u32 ((0 : Nat) : Int)), .val (.int .u32 ((0 : Nat) : Int)), .val (.int .u32 ((0 : Nat) : Int)), .val (.int .u32 ((0 : Nat) : Int)), .val (.int .u32 ((0 : Nat) : Int)), .val (.int .u32 ((0 : Nat) : Int)), .val (.int .u32 ((0 : Nat) : Int)), .val (.int .u32 ((0 : Nat) : Int)), .val (.int .u32 ((0 : Nat) : Int)), .val (.int .u32 ((0 : Nat) : Int)), .val (.int .u32 ((0 : Nat) : Int)), .val (.int .u32 ((0 : Nat) : Int))]))] [0, 3, 6])
 IM
def IQ : Af := .own 0 22 (.seq (.seq (.ops [mv_ 24 0,
  po_ 25 (.lenV (.t 24)),
  po_ 26 (.bin 3 .gtr (.t 25) (ci_ 5000))] [0, 3, 26])
 (.cond (.t 26)
 (.seq (.ops [po_ 27 (.iface 32 (ci_ 42)),
   po_ 4 (.mov (.c (.slice none 0 0))),
   mv_ 5 27] [4, 5])
  (.ret))
 (.skip)))
 Dv)
def IX : Af := .seq (.ops [mv_ 22 0,
  so_ 23 (.call 34 [.t 22])] [0, 3])
 IQ
def Iz : Af := .seq (.ops [mv_ 20 0,
  so_ 21 (.call 33 [.t 20]),
  mv_ 0 21] [0, 3])
 IX
def Ou : Af := .seq (.ops [so_ 3 (.box (.t 1)),
  po_ 4 (.mov (.c (.slice none 0 0))),
  po_ 5 (.mov (.c .nilIface))] [0, 3])
 Iz
def Bz : List VR := [.tmp 4, .tmp 5]
theorem V9 : Tryd.f15.body.bind (trC Tryd.prog Tryd.f15.ntmps) = some (er Ou) := by kernel_rfl
theorem V3 : trR Tryd.prog Tryd.f15.results.toList = some Bz := by kernel_rfl
def BX := Ad KE.eq_1
def Qg := Ad JA.eq_1
def Hf := Ad JZ.eq_1
def Hw := Ad Kz.eq_1
def Qh := Ad Kr.eq_1
def G8 := Ad J9.eq_1
def PS := Ad JE.eq_1
def Ht := Ad JV.eq_1
def Hg := Ad JF.eq_1
def GI := Ad Iw.eq_1
def OH := Ad Ik.eq_1
def O6 := Ad ED.eq_1
def PE := Ad Ej.eq_1
def OQ := Ad Et.eq_1
def OC := Ad Ew.eq_1
def O7 := Ad I9.eq_1
def Oj := Ad Eh.eq_1
def Oy := Ad Ep.eq_1
def Px := Ad IM.eq_1
def O0 := Ad Dv.eq_1
def Gp := Ad IQ.eq_1
def Gn := Ad IX.eq_1
def OL := Ad Iz.eq_1
def TD := Ad Ou.eq_1
theorem DT {K : TV → Prop} {e : Env} {H : List Ob} : res Bz e H K = res [.tmp 4, .tmp 5] e H K := Aa rfl
def UJ := Ia 123 Tryd.func15 V9 V3 rfl

def VZ : Af := .ops [mv_ 2 0,
  so_ 3 (.call 72 [.t 2, .c (.func (.func 73) #[] #[])])] []
def VN : List VR := []
theorem AaG : Tryd.f34.body.bind (trC Tryd.prog Tryd.f34.ntmps) = some (er VZ) := by kernel_rfl
theorem Aaj : trR Tryd.prog Tryd.f34.results.toList = some VN := by kernel_rfl
def X8 := Ad VZ.eq_1
theorem Yg {K : TV → Prop} {e : Env} {H : List Ob} : res VN e H K = res [] e H K := Aa rfl
def MI := (And.intro @X8 @Yg)
def UC := Ia 4 Tryd.func34 AaG Aaj rfl

def Fz : Af := .seq (.ops [mv_ 5 0,
  mv_ 6 1,
  po_ 7 (.bin 40 .shr (.t 6) (.c (.int .u64 ((24 : Nat) : Int)))),
  po_ 8 (.conv .u8 (.t 7)),
  mv_ 9 1,
  po_ 10 (.bin 40 .shr (.t 9) (.c (.int .u64 ((16 : Nat) : Int)))),
  po_ 11 (.conv .u8 (.t 10)),
  mv_ 12 1,
  po_ 13 (.bin 40 .shr (.t 12) (.c (.int .u64 ((8 : Nat) : Int)))),
  po_ 14 (.conv .u8 (.t 13)),
  mv_ 15 1,
  po_ 16 (.conv .u8 (.t 15)),
  ⟨some 17, .s (.bslice 1 4 (.val (.int .u8 ((0 : Nat) : Int))) [⟨0, .t 8⟩, ⟨1, .t 11⟩, ⟨2, .t 14⟩, ⟨3, .t 16⟩]), none⟩,
  so_ 18 (.app 1 1 5 (.t 5) (.t 17)),
  mv_ 4 18] [4])
 (.ret)
def IC : Af := .seq (.ops [po_ 4 (.mov (.c (.slice none 0 0)))] [0, 1])
 Fz
def IU : List VR := [.tmp 4]
theorem QO : Tryd.f35.body.bind (trC Tryd.prog Tryd.f35.ntmps) = some (er IC) := by kernel_rfl
theorem QS : trR Tryd.prog Tryd.f35.results.toList = some IU := by kernel_rfl
def LV := Ad Fz.eq_1
def Om := Ad IC.eq_1
theorem PD {K : TV → Prop} {e : Env} {H : List Ob} : res IU e H K = res [.tmp 4] e H K := Aa rfl
def Q8 := (And.intro (And.intro @LV @Om) @PD)
def Qa := Ia 19 Tryd.func35 QO QS rfl

def Lm : Af := .sdraw 9 [mv_ 58 9,
  mv_ 59 6,
  mv_ 60 10,
  po_ 61 (.bin 3 .mul (ci_ 20) (.t 60)),
  po_ 62 (.slV 1 (.t 59) (some (.t 61)) none),
  po_ 63 (.gen (.s2a 20 1) [.t 62]),
  po_ 64 (.load true 20 (.t 63)),
  mv_ 65 11,
  mv_ 68 12,
  so_ 66 (.call 79 [.t 65]),
  po_ 67 (.conv .u32 (.t 66)),
  so_ 69 (.call 79 [.t 68]),
  ⟨some 70, .p (.build [.arr 20 1 [.val (.int .u8 ((0 : Nat) : Int)), .val (.int .u8 ((0 : Nat) : Int)), .val (.int .u8 ((0 : Nat) : Int)), .val (.int .u8 ((0 : Nat) : Int)), .val (.int .u8 ((0 : Nat) : Int)), .val (.int .u8 ((0 : Nat) : Int)), .val (.int .u8 ((0 : Nat) : Int)), .val (.int .u8 ((0 : Nat) : Int)), .val (.int .u8 ((0 : Nat) : Int)), .val (.int .u8 ((0 : Nat) : Int)), .val (.int .u8 ((0 : Nat) : Int)), .val (.int .u8 ((0 : Nat) : Int)), .val (.int .u8 ((0 : Nat) : Int)), .val (.int .u8 ((0 : Nat) : Int)), .val (.int .u8 ((0 : Nat) : Int)), .val (.int .u8 ((0 : Nat) : Int)), .val (.int .u8 ((0 : Nat) : Int)), .val (.int .u8 ((0 : Nat) : Int)), .val (.int .u8 ((0 : Nat) : Int)), .val (.int .u8 ((0 : Nat) : Int))], .val (.int .i64 ((0 : Nat) : Int)), .val (.int .u32 ((0 : Nat) : Int))] [20, 1, 1] [⟨0, .t 64⟩, ⟨2, .t 67⟩, ⟨1, .t 69⟩]), none⟩,
  ⟨some 71, .s (.bslice 22 1 (.agg [.arr 20 1 [.val (.int .u8 ((0 : Nat) : Int)), .val (.int .u8 ((0 : Nat) : Int)), .val (.int .u8 ((0 : Nat) : Int)), .val (.int .u8 ((0 : Nat) : Int)), .val (.int .u8 ((0 : Nat) : Int)), .val (.int .u8 ((0 : Nat) : Int)), .val (.int .u8 ((0 : Nat) : Int)), .val (.int .u8 ((0 : Nat) : Int)), .val (.int .u8 ((0 : Nat) : Int)), .val (.int .u8 ((0 : Nat) : Int)), .val (.int .u8 ((0 : Nat) : Int)), .val (.int .u8 ((0 : Nat) : Int)), .val (.int .u8 ((0 : Nat) : Int)), .val (.int .u8 ((0 : Nat) : Int)), .val (.int .u8 ((0 : Nat) : Int)), .val (.int .u8 ((0 : Nat) : Int)), .val (.int .u8 ((0 : Nat) : Int)), .val (.int .u8 ((0 : Nat) : Int)), .val (.int .u8 ((0 : Nat) : Int)), .val (.int .u8 ((0 : Nat) : Int))], .val (.int .i64 ((0 : Nat) : Int)), .val (.int .u32 ((0 : Nat) : Int))]) [⟨0, .t 70⟩]), none⟩,
  so_ 72 (.app 22 40 42 (.t 58) (.t 71)),
  mv_ 9 72] [0, 3, 6, 7, 8, 9, 44, 45]
def LP : Af := .seq (.ops [mv_ 48 7,
  mv_ 49 10,
  po_ 50 (.bin 3 .mul (ci_ 4) (.t 49)),
  ⟨some 51, .p (.build [.val (.slice none 0 0), .val (.int .i64 ((0 : Nat) : Int))] [1, 1] [⟨0, .t 48⟩, ⟨1, .t 50⟩]), none⟩,
  so_ 52 (.box (.t 51)),
  mv_ 53 8,
  mv_ 54 10,
  po_ 55 (.bin 3 .mul (ci_ 4) (.t 54)),
  ⟨some 56, .p (.build [.val (.slice none 0 0), .val (.int .i64 ((0 : Nat) : Int))] [1, 1] [⟨0, .t 53⟩, ⟨1, .t 55⟩]), none⟩,
  so_ 57 (.box (.t 56)),
  mv_ 11 52,
  mv_ 12 57] [0, 3, 6, 7, 8, 9, 10, 11, 12, 44, 45])
 Lm
def LC : Af := .seq (.block 1 (.seq (.ops [mv_ 47 45,
  mv_ 10 47] [0, 3, 6, 7, 8, 9, 10, 44, 45])
 LP))
 (.ops [po_ 73 (.bin 3 .add (.t 45) (ci_ 1)),
  mv_ 45 73] [0, 3, 6, 7, 8, 9, 44, 45])
def Lc : Af := .seq (.cond (.t 46)
 (.skip)
 (.exit 0))
 LC
def KZ : Af := .seq (.ops [po_ 46 (.bin 3 .lss (.t 45) (.t 44))] [0, 3, 6, 7, 8, 9, 44, 45, 46])
 Lc
def L9 : Af := .block 0 (.own 9 22 (.loop [0, 3, 6, 7, 8, 9, 44, 45] KZ))
def KU : Af := .seq (.ops [mv_ 87 15,
  po_ 88 (.eqN 1 (.t 87) (.c .nilIface) true),
  mv_ 89 88,
  ⟨some 90, .p (.mov (.t 14)), some ⟨89, false⟩⟩,
  ⟨some 91, .p (.mov (.t 0)), some ⟨89, false⟩⟩,
  ⟨some 92, .s (.call 80 [.t 90, .t 91]), some ⟨89, false⟩⟩,
  ⟨some 93, .p (.un .not (.t 92)), some ⟨89, false⟩⟩,
  po_ 94 (.pick (.t 89) (.c (.bool true)) (.t 93))] [3, 9, 13, 94])
 (.cond (.t 94)
 (.seq (.ops [po_ 95 (.buildA 20 1 [.val (.int .u8 ((0 : Nat) : Int)), .val (.int .u8 ((0 : Nat) : Int)), .val (.int .u8 ((0 : Nat) : Int)), .val (.int .u8 ((0 : Nat) : Int)), .val (.int .u8 ((0 : Nat) : Int)), .val (.int .u8 ((0 : Nat) : Int)), .val (.int .u8 ((0 : Nat) : Int)), .val (.int .u8 ((0 : Nat) : Int)), .val (.int .u8 ((0 : Nat) : Int)), .val (.int .u8 ((0 : Nat) : Int)), .val (.int .u8 ((0 : Nat) : Int)), .val (.int .u8 ((0 : Nat) : Int)), .val (.int .u8 ((0 : Nat) : Int)), .val (.int .u8 ((0 : Nat) : Int)), .val (.int .u8 ((0 : Nat) : Int)), .val (.int .u8 ((0 : Nat) : Int)), .val (.int .u8 ((0 : Nat) : Int)), .val (.int .u8 ((0 : Nat) : Int)), .val (.int .u8 ((0 : Nat) : Int)), .val (.int .u8 ((0 : Nat) : Int))] []),
   po_ 96 (.iface 32 (ci_ 42)),
   po_ 2 (.mov (.c (.slice none 0 0))),
   ⟨none, .s (.store 20 (.t 3) (.t 95)), none⟩,
   mv_ 4 96] [2, 3, 4])
  (.ret))
 (.skip))
def LG : Af := .seq (.seq (.ops [mv_ 82 9,
  po_ 83 (.load true 20 (.t 13)),
  so_ 84 (.call 15 [.t 82, .t 83]),
  mv_ 81 84,
  po_ 85 (.ext 0 (.t 81)),
  po_ 86 (.ext 1 (.t 81)),
  mv_ 14 85,
  mv_ 15 86] [0, 3, 9, 13, 14, 15])
 KU)
 (.seq (.draw 1 [mv_ 97 9,
  po_ 98 (.load true 20 (.t 13)),
  mv_ 2 97,
  ⟨none, .s (.store 20 (.t 3) (.t 98)), none⟩,
  po_ 4 (.mov (.c .nilIface))] [2, 3, 4])
 (.ret))
def Ld : Af := .seq (.ops [mv_ 74 0,
  mv_ 75 0,
  po_ 76 (.lenV (.t 75)),
  po_ 77 (.bin 3 .sub (.t 76) (ci_ 40)),
  po_ 78 (.slV 1 (.t 74) (some (.t 77)) none),
  po_ 79 (.gen (.s2a 20 1) [.t 78]),
  po_ 80 (.load true 20 (.t 79)),
  so_ 13 (.alloc (.arr 20 1 [.val (.int .u8 ((0 : Nat) : Int)), .val (.int .u8 ((0 : Nat) : Int)), .val (.int .u8 ((0 : Nat) : Int)), .val (.int .u8 ((0 : Nat) : Int)), .val (.int .u8 ((0 : Nat) : Int)), .val (.int .u8 ((0 : Nat) : Int)), .val (.int .u8 ((0 : Nat) : Int)), .val (.int .u8 ((0 : Nat) : Int)), .val (.int .u8 ((0 : Nat) : Int)), .val (.int .u8 ((0 : Nat) : Int)), .val (.int .u8 ((0 : Nat) : Int)), .val (.int .u8 ((0 : Nat) : Int)), .val (.int .u8 ((0 : Nat) : Int)), .val (.int .u8 ((0 : Nat) : Int)), .val (.int .u8 ((0 : Nat) : Int)), .val (.int .u8 ((0 : Nat) : Int)), .val (.int .u8 ((0 : Nat) : Int)), .val (.int .u8 ((0 : Nat) : Int)), .val (.int .u8 ((0 : Nat) : Int)), .val (.int .u8 ((0 : Nat) : Int))])),
  ⟨none, .s (.store 20 (.t 13) (.t 80)), none⟩] [0, 3, 9, 13])
 LG
def Ku : Af := .seq (.seq (.ops [mv_ 44 5,
  po_ 45 (.mov (ci_ 0))] [0, 3, 6, 7, 8, 9, 44, 45])
 L9)
 Ld
def KD : Af := .seq (.ops [po_ 9 (.mov (.c (.slice none 0 0)))] [0, 3, 5, 6, 7, 8, 9])
 Ku
def JU : Af := .seq (.draw 8 [mv_ 32 0,
  po_ 33 (.slV 1 (.t 32) (some (ci_ 1032)) none),
  mv_ 34 0,
  mv_ 35 5,
  po_ 36 (.bin 3 .mul (ci_ 20) (.t 35)),
  po_ 37 (.bin 3 .add (ci_ 1032) (.t 36)),
  po_ 38 (.slV 1 (.t 34) (some (.t 37)) none),
  mv_ 39 0,
  mv_ 40 5,
  po_ 41 (.bin 3 .mul (ci_ 24) (.t 40)),
  po_ 42 (.bin 3 .add (ci_ 1032) (.t 41)),
  po_ 43 (.slV 1 (.t 39) (some (.t 42)) none),
  mv_ 6 33,
  mv_ 7 38,
  mv_ 8 43] [0, 3, 5, 6, 7, 8])
 KD
def Kw : Af := .seq (.seq (.ops [mv_ 20 0,
  po_ 21 (.lenV (.t 20)),
  po_ 22 (.bin 3 .lss (.t 21) (ci_ 1072)),
  mv_ 23 22,
  ⟨some 24, .p (.mov (.t 0)), some ⟨23, false⟩⟩,
  ⟨some 25, .p (.lenV (.t 24)), some ⟨23, false⟩⟩,
  ⟨some 26, .p (.bin 3 .sub (.t 25) (ci_ 1072)), some ⟨23, false⟩⟩,
  ⟨some 27, .p (.bin 3 .rem (.t 26) (ci_ 28)), some ⟨23, false⟩⟩,
  ⟨some 28, .p (.bin 3 .gtr (.t 27) (ci_ 0)), some ⟨23, false⟩⟩,
  po_ 29 (.pick (.t 23) (.c (.bool true)) (.t 28))] [0, 3, 5, 29])
 (.cond (.t 29)
 (.seq (.ops [po_ 30 (.buildA 20 1 [.val (.int .u8 ((0 : Nat) : Int)), .val (.int .u8 ((0 : Nat) : Int)), .val (.int .u8 ((0 : Nat) : Int)), .val (.int .u8 ((0 : Nat) : Int)), .val (.int .u8 ((0 : Nat) : Int)), .val (.int .u8 ((0 : Nat) : Int)), .val (.int .u8 ((0 : Nat) : Int)), .val (.int .u8 ((0 : Nat) : Int)), .val (.int .u8 ((0 : Nat) : Int)), .val (.int .u8 ((0 : Nat) : Int)), .val (.int .u8 ((0 : Nat) : Int)), .val (.int .u8 ((0 : Nat) : Int)), .val (.int .u8 ((0 : Nat) : Int)), .val (.int .u8 ((0 : Nat) : Int)), .val (.int .u8 ((0 : Nat) : Int)), .val (.int .u8 ((0 : Nat) : Int)), .val (.int .u8 ((0 : Nat) : Int)), .val (.int .u8 ((0 : Nat) : Int)), .val (.int .u8 ((0 : Nat) : Int)), .val (.int .u8 ((0 : Nat) : Int))] []),
   po_ 31 (.iface 32 (ci_ 42)),
   po_ 2 (.mov (.c (.slice none 0 0))),
   ⟨none, .s (.store 20 (.t 3) (.t 30)), none⟩,
   mv_ 4 31] [2, 3, 4])
  (.ret))
 (.skip)))
 JU
def KG : Af := .seq (.ops [mv_ 16 0,
  po_ 17 (.lenV (.t 16)),
  po_ 18 (.bin 3 .sub (.t 17) (ci_ 1072)),
  po_ 19 (.bin 3 .quo (.t 18) (ci_ 28)),
  mv_ 5 19] [0, 3, 5])
 Kw
def Qu : Af := .seq (.ops [po_ 2 (.mov (.c (.slice none 0 0))),
  so_ 3 (.alloc (.arr 20 1 [.val (.int .u8 ((0 : Nat) : Int)), .val (.int .u8 ((0 : Nat) : Int)), .val (.int .u8 ((0 : Nat) : Int)), .val (.int .u8 ((0 : Nat) : Int)), .val (.int .u8 ((0 : Nat) : Int)), .val (.int .u8 ((0 : Nat) : Int)), .val (.int .u8 ((0 : Nat) : Int)), .val (.int .u8 ((0 : Nat) : Int)), .val (.int .u8 ((0 : Nat) : Int)), .val (.int .u8 ((0 : Nat) : Int)), .val (.int .u8 ((0 : Nat) : Int)), .val (.int .u8 ((0 : Nat) : Int)), .val (.int .u8 ((0 : Nat) : Int)), .val (.int .u8 ((0 : Nat) : Int)), .val (.int .u8 ((0 : Nat) : Int)), .val (.int .u8 ((0 : Nat) : Int)), .val (.int .u8 ((0 : Nat) : Int)), .val (.int .u8 ((0 : Nat) : Int)), .val (.int .u8 ((0 : Nat) : Int)), .val (.int .u8 ((0 : Nat) : Int))])),
  po_ 4 (.mov (.c .nilIface))] [0, 3])
 KG
def QG : List VR := [.tmp 2, .cell 3 true 20, .tmp 4]
theorem WQ : Tryd.f40.body.bind (trC Tryd.prog Tryd.f40.ntmps) = some (er Qu) := by kernel_rfl
theorem WB : trR Tryd.prog Tryd.f40.results.toList = some QG := by kernel_rfl
def QN := Ad Lm.eq_1
def QY := Ad LP.eq_1
def QJ := Ad LC.eq_1
def I8 := Ad Lc.eq_1
def Ip := Ad KZ.eq_1
def Q5 := Ad L9.eq_1
def Il := Ad KU.eq_1
def Rf := Ad LG.eq_1
def Rh := Ad Ld.eq_1
def Qd := Ad Ku.eq_1
def Qp := Ad KD.eq_1
def P7 := Ad JU.eq_1
def D7 := Ad Kw.eq_1
def DV := Ad KG.eq_1
def G5 := Ad Qu.eq_1
theorem BV {K : TV → Prop} {e : Env} {H : List Ob} : res QG e H K = res [.tmp 2, .cell 3 true 20, .tmp 4] e H K := Aa rfl
def VB := Ia 99 Tryd.func40 WQ WB rfl

def Qz : Af := .seq (.ops [mv_ 21 6,
  po_ 22 (.load true 20 (.t 3)),
  so_ 23 (.call 81 [.t 21, .t 22, .c (.func (.func 82) #[] #[])]),
  mv_ 20 23,
  po_ 24 (.ext 0 (.t 20)),
  po_ 25 (.ext 1 (.t 20)),
  mv_ 9 24,
  mv_ 10 25] [6, 9, 10])
 (.seq (.seq (.ops [mv_ 26 10,
  po_ 27 (.un .not (.t 26))] [6, 9, 27])
 (.cond (.t 27)
 (.seq (.ops [po_ 28 (.iface 32 (ci_ 50)),
   po_ 4 (.mov (ci_ 0)),
   mv_ 5 28] [4, 5])
  (.ret))
 (.skip)))
 (.seq (.ops [mv_ 29 6,
  mv_ 30 9,
  po_ 31 (.idxA 22 (.t 29) (.t 30)),
  po_ 32 (.fieldA 1 20 (.t 31)),
  po_ 33 (.load false 1 (.t 32)),
  mv_ 4 33,
  po_ 5 (.mov (.c .nilIface))] [4, 5])
 (.ret)))
def QE : Af := .seq (.seq (.ops [mv_ 17 8,
  po_ 18 (.eqN 1 (.t 17) (.c .nilIface) true)] [3, 6, 8, 18])
 (.cond (.t 18)
 (.seq (.ops [mv_ 19 8,
   po_ 4 (.mov (ci_ 0)),
   mv_ 5 19] [4, 5])
  (.ret))
 (.skip)))
 Qz
def Qs : Af := .seq (.pops [mv_ 12 0,
  so_ 13 (.call 40 [.t 12]),
  mv_ 11 13,
  po_ 14 (.ext 0 (.t 11)),
  po_ 15 (.ext 1 (.t 11)),
  po_ 16 (.ext 2 (.t 11)),
  so_ 7 (.alloc (.arr 20 1 [.val (.int .u8 ((0 : Nat) : Int)), .val (.int .u8 ((0 : Nat) : Int)), .val (.int .u8 ((0 : Nat) : Int)), .val (.int .u8 ((0 : Nat) : Int)), .val (.int .u8 ((0 : Nat) : Int)), .val (.int .u8 ((0 : Nat) : Int)), .val (.int .u8 ((0 : Nat) : Int)), .val (.int .u8 ((0 : Nat) : Int)), .val (.int .u8 ((0 : Nat) : Int)), .val (.int .u8 ((0 : Nat) : Int)), .val (.int .u8 ((0 : Nat) : Int)), .val (.int .u8 ((0 : Nat) : Int)), .val (.int .u8 ((0 : Nat) : Int)), .val (.int .u8 ((0 : Nat) : Int)), .val (.int .u8 ((0 : Nat) : Int)), .val (.int .u8 ((0 : Nat) : Int)), .val (.int .u8 ((0 : Nat) : Int)), .val (.int .u8 ((0 : Nat) : Int)), .val (.int .u8 ((0 : Nat) : Int)), .val (.int .u8 ((0 : Nat) : Int))])),
  mv_ 6 14,
  ⟨none, .s (.store 20 (.t 7) (.t 15)), none⟩,
  mv_ 8 16] [3, 6, 8])
 QE
def Vq : Af := .seq (.ops [so_ 3 (.box (.t 1)),
  po_ 4 (.mov (ci_ 0)),
  po_ 5 (.mov (.c .nilIface))] [0, 3])
 Qs
def Vf : List VR := [.tmp 4, .tmp 5]
theorem AaW : Tryd.f41.body.bind (trC Tryd.prog Tryd.f41.ntmps) = some (er Vq) := by kernel_rfl
theorem Aac : trR Tryd.prog Tryd.f41.results.toList = some Vf := by kernel_rfl
def UY := Ad Qz.eq_1
def Nq := Ad QE.eq_1
def UW := Ad Qs.eq_1
def Ye := Ad Vq.eq_1
theorem MX {K : TV → Prop} {e : Env} {H : List Ob} : res Vf e H K = res [.tmp 4, .tmp 5] e H K := Aa rfl
def Zb := Ia 34 Tryd.func41 AaW Aac rfl

def RJ : Af := .seq (.ops [so_ 2 (.box (.t 0)),
  so_ 3 (.box (.t 1)),
  po_ 4 (.mov (ci_ 0))] [2, 3])
 (.seq (.draw 2 [po_ 5 (.fieldA 0 0 (.t 2)),
  po_ 6 (.slA 20 1 (.t 5) none none),
  po_ 7 (.slA 20 1 (.t 3) none none),
  so_ 8 (.call 74 [.t 6, .t 7]),
  mv_ 4 8] [4])
 (.ret))
def Ti : List VR := [.tmp 4]
theorem Ym : Tryd.f82.body.bind (trC Tryd.prog Tryd.f82.ntmps) = some (er RJ) := by kernel_rfl
theorem XN : trR Tryd.prog Tryd.f82.results.toList = some Ti := by kernel_rfl
def V8 := Ad RJ.eq_1
theorem V7 {K : TV → Prop} {e : Env} {H : List Ob} : res Ti e H K = res [.tmp 4] e H K := Aa rfl
def Sr := (And.intro @V8 @V7)
def WU := Ia 9 Tryd.func82 Ym XN rfl

def E9 : Af := .seq (.draw 17 [mv_ 6 3,
  po_ 7 (.idxA 1 (.t 6) (ci_ 0)),
  po_ 8 (.load false 1 (.t 7)),
  po_ 9 (.conv .i64 (.t 8)),
  po_ 10 (.bin 3 .shl (.t 9) (.c (.int .u64 ((24 : Nat) : Int)))),
  mv_ 11 3,
  po_ 12 (.idxA 1 (.t 11) (ci_ 1)),
  po_ 13 (.load false 1 (.t 12)),
  po_ 14 (.conv .i64 (.t 13)),
  po_ 15 (.bin 3 .shl (.t 14) (.c (.int .u64 ((16 : Nat) : Int)))),
  po_ 16 (.bin 3 .or (.t 10) (.t 15)),
  mv_ 17 3,
  po_ 18 (.idxA 1 (.t 17) (ci_ 2)),
  po_ 19 (.load false 1 (.t 18)),
  po_ 20 (.conv .i64 (.t 19)),
  po_ 21 (.bin 3 .shl (.t 20) (.c (.int .u64 ((8 : Nat) : Int)))),
  po_ 22 (.bin 3 .or (.t 16) (.t 21)),
  mv_ 23 3,
  po_ 24 (.idxA 1 (.t 23) (ci_ 3)),
  po_ 25 (.load false 1 (.t 24)),
  po_ 26 (.conv .i64 (.t 25)),
  po_ 27 (.bin 3 .or (.t 22) (.t 26)),
  mv_ 2 27] [2])
 (.ret)
def E5 : Af := .seq (.pops [mv_ 4 0,
  so_ 5 (.call 108 [.t 4, .c (.int .i64 ((4 : Nat) : Int))]),
  mv_ 3 5] [3])
 E9
def H7 : Af := .seq (.ops [po_ 2 (.mov (ci_ 0))] [0])
 E5
def Hl : List VR := [.tmp 2]
theorem P9 : Tryd.f79.body.bind (trC Tryd.prog Tryd.f79.ntmps) = some (er H7) := by kernel_rfl
theorem Qk : trR Tryd.prog Tryd.f79.results.toList = some Hl := by kernel_rfl
def KJ := Ad E9.eq_1
def KO := Ad E5.eq_1
def NQ := Ad H7.eq_1
theorem NL {K : TV → Prop} {e : Env} {H : List Ob} : res Hl e H K = res [.tmp 2] e H K := Aa rfl
def Ho := (And.intro (And.intro @KJ @KO) (And.intro @NQ @NL))
def OU := Ia 28 Tryd.func79 P9 Qk rfl

def GK : Af := .seq (.draw 8 [mv_ 19 0,
  po_ 20 (.nilc (.t 19)),
  po_ 21 (.fieldA 0 0 (.t 20)),
  po_ 22 (.load false 1 (.t 21)),
  mv_ 23 0,
  po_ 24 (.nilc (.t 23)),
  po_ 25 (.fieldA 1 1 (.t 24)),
  po_ 26 (.load false 1 (.t 25)),
  mv_ 27 0,
  po_ 28 (.nilc (.t 27)),
  po_ 29 (.fieldA 1 1 (.t 28)),
  po_ 30 (.load false 1 (.t 29)),
  mv_ 31 1,
  po_ 32 (.bin 3 .add (.t 30) (.t 31)),
  po_ 33 (.slV 1 (.t 22) (some (.t 26)) (some (.t 32))),
  mv_ 5 33] [0, 1, 5])
 (.seq (.ops [mv_ 34 0,
  po_ 35 (.nilc (.t 34)),
  po_ 36 (.fieldA 1 1 (.t 35)),
  po_ 37 (.load false 1 (.t 36)),
  mv_ 38 1,
  po_ 39 (.bin 3 .add (.t 37) (.t 38)),
  po_ 40 (.nilc (.t 34)),
  po_ 41 (.fieldA 1 1 (.t 40)),
  ⟨none, .s (.store 1 (.t 41) (.t 39)), none⟩] [5])
 (.seq (.ops [mv_ 42 5,
  mv_ 4 42] [4])
 (.ret)))
def GR : Af := .seq (.seq (.draw 6 [mv_ 6 1,
  mv_ 7 0,
  po_ 8 (.nilc (.t 7)),
  po_ 9 (.fieldA 0 0 (.t 8)),
  po_ 10 (.load false 1 (.t 9)),
  po_ 11 (.lenV (.t 10)),
  mv_ 12 0,
  po_ 13 (.nilc (.t 12)),
  po_ 14 (.fieldA 1 1 (.t 13)),
  po_ 15 (.load false 1 (.t 14)),
  po_ 16 (.bin 3 .sub (.t 11) (.t 15)),
  po_ 17 (.bin 3 .gtr (.t 6) (.t 16))] [0, 1, 17])
 (.cond (.t 17)
 (.pops [po_ 18 (.iface 32 (ci_ 40)),
   ⟨none, .s (.pan (.t 18)), none⟩] [0, 1])
 (.skip)))
 GK
def JD : Af := .seq (.ops [po_ 4 (.mov (.c (.slice none 0 0)))] [0, 1])
 GR
def JR : List VR := [.tmp 4]
theorem RH : Tryd.f108.body.bind (trC Tryd.prog Tryd.f108.ntmps) = some (er JD) := by kernel_rfl
theorem Tv : trR Tryd.prog Tryd.f108.results.toList = some JR := by kernel_rfl
def MS := Ad GK.eq_1
def MV := Ad GR.eq_1
def Ql := Ad JD.eq_1
theorem Qc {K : TV → Prop} {e : Env} {H : List Ob} : res JR e H K = res [.tmp 4] e H K := Aa rfl
def SY := (And.intro (And.intro @MS @MV) (And.intro @Ql @Qc))
def QR := Ia 43 Tryd.func108 RH Tv rfl

def CQ : Af := .seq (.ops [po_ 2 (.mov (.c (.slice none 0 0)))] [0])
 (.seq (.seq (.ops [mv_ 3 0,
  so_ 4 (.eqS (.t 3) false)] [0, 4])
 (.cond (.t 4)
 (.seq (.ops [po_ 2 (.mov (.c (.slice none 0 0)))] [2])
  (.ret))
 (.skip)))
 (.seq (.ops [so_ 5 (.bslice 22 0 (.agg [.arr 20 1 [.val (.int .u8 ((0 : Nat) : Int)), .val (.int .u8 ((0 : Nat) : Int)), .val (.int .u8 ((0 : Nat) : Int)), .val (.int .u8 ((0 : Nat) : Int)), .val (.int .u8 ((0 : Nat) : Int)), .val (.int .u8 ((0 : Nat) : Int)), .val (.int .u8 ((0 : Nat) : Int)), .val (.int .u8 ((0 : Nat) : Int)), .val (.int .u8 ((0 : Nat) : Int)), .val (.int .u8 ((0 : Nat) : Int)), .val (.int .u8 ((0 : Nat) : Int)), .val (.int .u8 ((0 : Nat) : Int)), .val (.int .u8 ((0 : Nat) : Int)), .val (.int .u8 ((0 : Nat) : Int)), .val (.int .u8 ((0 : Nat) : Int)), .val (.int .u8 ((0 : Nat) : Int)), .val (.int .u8 ((0 : Nat) : Int)), .val (.int .u8 ((0 : Nat) : Int)), .val (.int .u8 ((0 : Nat) : Int)), .val (.int .u8 ((0 : Nat) : Int))], .val (.int .i64 ((0 : Nat) : Int)), .val (.int .u32 ((0 : Nat) : Int))]) []),
  mv_ 6 0,
  so_ 7 (.app 22 40 42 (.t 5) (.t 6)),
  mv_ 2 7] [2])
 (.ret)))
def CP : List VR := [.tmp 2]
theorem EX : Tryd.f33.body.bind (trC Tryd.prog Tryd.f33.ntmps) = some (er CQ) := by kernel_rfl
theorem EW : trR Tryd.prog Tryd.f33.results.toList = some CP := by kernel_rfl
def Eb := Ad CQ.eq_1
theorem Ec {K : TV → Prop} {e : Env} {H : List Ob} : res CP e H K = res [.tmp 2] e H K := Aa rfl
def Ba := (And.intro @Eb @Ec)
def Eg := Ia 8 Tryd.func33 EX EW rfl

def A7 : Af := .seq (.draw 5 [mv_ 24 2,
  mv_ 25 0,
  mv_ 26 11,
  po_ 27 (.idxA 22 (.t 25) (.t 26)),
  po_ 28 (.load true 22 (.t 27)),
  po_ 29 (.load true 20 (.t 4)),
  so_ 30 (.callv (.t 24) [.t 28, .t 29]),
  po_ 31 (.bin 3 .lss (.t 30) (ci_ 0))] [0, 2, 4, 8, 9, 10, 11, 31])
 (.cond (.t 31)
 (.ops [mv_ 32 11,
   po_ 33 (.bin 3 .add (.t 32) (ci_ 1)),
   mv_ 9 33] [0, 2, 4, 8, 9, 10])
 (.ops [mv_ 34 11,
   mv_ 10 34] [0, 2, 4, 8, 9, 10]))
def AU : Af := .block 1 (.seq (.ops [mv_ 18 9,
  mv_ 19 10,
  po_ 20 (.bin 3 .add (.t 18) (.t 19)),
  po_ 21 (.conv .u64 (.t 20)),
  po_ 22 (.bin 49 .shr (.t 21) (.c (.int .u64 ((1 : Nat) : Int)))),
  po_ 23 (.conv .i64 (.t 22)),
  mv_ 11 23] [0, 2, 4, 8, 9, 10, 11])
 A7)
def AQ : Af := .seq (.seq (.ops [mv_ 15 9,
  mv_ 16 10,
  po_ 17 (.bin 3 .lss (.t 15) (.t 16))] [0, 2, 4, 8, 9, 10, 17])
 (.cond (.t 17)
 (.skip)
 (.exit 0)))
 AU
def AV : Af := .seq (.draw 10 [mv_ 35 9,
  mv_ 36 9,
  mv_ 37 8,
  po_ 38 (.bin 3 .lss (.t 36) (.t 37)),
  mv_ 39 38,
  ⟨some 40, .p (.mov (.t 2)), some ⟨39, true⟩⟩,
  ⟨some 41, .p (.mov (.t 0)), some ⟨39, true⟩⟩,
  ⟨some 42, .p (.mov (.t 9)), some ⟨39, true⟩⟩,
  ⟨some 43, .p (.idxA 22 (.t 41) (.t 42)), some ⟨39, true⟩⟩,
  ⟨some 44, .p (.load true 22 (.t 43)), some ⟨39, true⟩⟩,
  ⟨some 45, .p (.load true 20 (.t 4)), some ⟨39, true⟩⟩,
  ⟨some 46, .s (.callv (.t 40) [.t 44, .t 45]), some ⟨39, true⟩⟩,
  ⟨some 47, .p (.bin 3 .eql (.t 46) (ci_ 0)), some ⟨39, true⟩⟩,
  po_ 48 (.pick (.t 39) (.t 47) (.c (.bool false))),
  mv_ 6 35,
  mv_ 7 48] [6, 7])
 (.ret)
def AX : Af := .seq (.block 0 (.loop [0, 2, 4, 8, 9, 10] AQ))
 AV
def AZ : Af := .seq (.ops [mv_ 14 8,
  po_ 9 (.mov (ci_ 0)),
  mv_ 10 14] [0, 2, 4, 8, 9, 10])
 AX
def AY : Af := .seq (.ops [mv_ 12 0,
  po_ 13 (.lenV (.t 12)),
  mv_ 8 13] [0, 2, 4, 8])
 AZ
def Be : Af := .seq (.ops [so_ 4 (.box (.t 1)),
  po_ 6 (.mov (ci_ 0)),
  po_ 7 (.mov (.c (.bool false)))] [0, 2, 4])
 AY
def Bf : List VR := [.tmp 6, .tmp 7]
theorem Ci : Tryd.f81.body.bind (trC Tryd.prog Tryd.f81.ntmps) = some (er Be) := by kernel_rfl
theorem Cm : trR Tryd.prog Tryd.f81.results.toList = some Bf := by kernel_rfl
def BO := Ad A7.eq_1
def BP := Ad AU.eq_1
def Az := Ad AQ.eq_1
def AP := Ad AV.eq_1
def BQ := Ad AX.eq_1
def BR := Ad AZ.eq_1
def BM := Ad AY.eq_1
def BZ := Ad Be.eq_1
theorem Aq {K : TV → Prop} {e : Env} {H : List Ob} : res Bf e H K = res [.tmp 6, .tmp 7] e H K := Aa rfl
def Cc := Ia 49 Tryd.func81 Ci Cm rfl

def SC : Af := .seq (.ops [po_ 4 (.mov (.c (.bool false)))] [0, 1])
 (.seq (.ops [mv_ 5 0,
  po_ 6 (.b2s (.t 5)),
  mv_ 7 1,
  po_ 8 (.b2s (.t 7)),
  po_ 9 (.bin 9 .eql (.t 6) (.t 8)),
  mv_ 4 9] [4])
 (.ret))
def Rx : List VR := [.tmp 4]
theorem Yf : Tryd.f80.body.bind (trC Tryd.prog Tryd.f80.ntmps) = some (er SC) := by kernel_rfl
theorem Yx : trR Tryd.prog Tryd.f80.results.toList = some Rx := by kernel_rfl
def VH := Ad SC.eq_1
theorem VT {K : TV → Prop} {e : Env} {H : List Ob} : res Rx e H K = res [.tmp 4] e H K := Aa rfl
def XQ := (And.intro @VH @VT)
def WO := Ia 10 Tryd.func80 Yf Yx rfl

def JS : Af := .seq (.block 3 (.seq (.draw 5 [mv_ 45 0,
  mv_ 46 7,
  po_ 47 (.idxA 22 (.t 45) (.t 46)),
  po_ 48 (.fieldA 0 0 (.t 47)),
  po_ 49 (.load true 20 (.t 48)),
  mv_ 50 0,
  mv_ 51 6,
  po_ 52 (.idxA 22 (.t 50) (.t 51)),
  po_ 53 (.fieldA 0 0 (.t 52)),
  po_ 54 (.load true 20 (.t 53)),
  po_ 55 (.gen (.eqA 20 false) [.t 49, .t 54])] [0, 3, 6, 7, 55])
 (.cond (.t 55)
 (.seq (.ops [po_ 4 (.mov (.c (.slice none 0 0))),
   po_ 5 (.mov (ci_ 42))] [4, 5])
  (.ret))
 (.skip))))
 (.ops [mv_ 43 7,
  po_ 44 (.bin 3 .add (.t 43) (ci_ 1)),
  mv_ 7 44] [0, 3, 6, 7])
def JH : Af := .seq (.seq (.ops [mv_ 40 7,
  mv_ 41 6,
  po_ 42 (.bin 3 .lss (.t 40) (.t 41))] [0, 3, 6, 7, 42])
 (.cond (.t 42)
 (.skip)
 (.exit 2)))
 JS
def Jw : Af := .block 2 (.loop [0, 3, 6, 7] JH)
def Jz : Af := .seq (.ops [po_ 7 (.mov (ci_ 0))] [0, 3, 6, 7])
 Jw
def JP : Af := .ops [mv_ 24 6,
  po_ 25 (.bin 3 .add (.t 24) (ci_ 1)),
  mv_ 6 25] [0, 3, 6]
def KC : Af := .seq (.block 1 (.seq (.seq (.ops [mv_ 26 0,
  mv_ 27 6,
  po_ 28 (.idxA 22 (.t 26) (.t 27)),
  po_ 29 (.fieldA 1 20 (.t 28)),
  po_ 30 (.load false 1 (.t 29)),
  po_ 31 (.bin 3 .lss (.t 30) (ci_ 0)),
  mv_ 32 31,
  ⟨some 33, .p (.mov (.t 0)), some ⟨32, false⟩⟩,
  ⟨some 34, .p (.mov (.t 6)), some ⟨32, false⟩⟩,
  ⟨some 35, .p (.idxA 22 (.t 33) (.t 34)), some ⟨32, false⟩⟩,
  ⟨some 36, .p (.fieldA 1 20 (.t 35)), some ⟨32, false⟩⟩,
  ⟨some 37, .p (.load false 1 (.t 36)), some ⟨32, false⟩⟩,
  ⟨some 38, .p (.bin 3 .geq (.t 37) (ci_ 2147483648)), some ⟨32, false⟩⟩,
  po_ 39 (.pick (.t 32) (.c (.bool true)) (.t 38))] [0, 3, 6, 39])
 (.cond (.t 39)
 (.seq (.ops [po_ 4 (.mov (.c (.slice none 0 0))),
   po_ 5 (.mov (ci_ 42))] [4, 5])
  (.ret))
 (.skip)))
 Jz))
 JP
def JI : Af := .seq (.seq (.ops [mv_ 20 6,
  mv_ 21 0,
  po_ 22 (.lenV (.t 21)),
  po_ 23 (.bin 3 .lss (.t 20) (.t 22))] [0, 3, 6, 23])
 (.cond (.t 23)
 (.skip)
 (.exit 0)))
 KC
def Jv : Af := .block 0 (.loop [0, 3, 6] JI)
def JM : Af := .seq (.block 7 (.seq (.ops [mv_ 71 8,
  mv_ 72 12,
  po_ 73 (.idxA 22 (.t 71) (.t 72)),
  po_ 74 (.fieldA 0 0 (.t 73)),
  po_ 75 (.idxAA 20 1 (.t 74) (ci_ 0)),
  po_ 76 (.load false 1 (.t 75)),
  po_ 77 (.conv .i64 (.t 76)),
  mv_ 78 10,
  po_ 79 (.bin 3 .leq (.t 77) (.t 78))] [3, 8, 9, 10, 11, 12, 79])
 (.cond (.t 79)
 (.ops [mv_ 80 11,
   po_ 81 (.bin 3 .add (.t 80) (ci_ 1)),
   mv_ 11 81] [3, 8, 9, 10, 11, 12])
 (.skip))))
 (.ops [mv_ 69 12,
  po_ 70 (.bin 3 .add (.t 69) (ci_ 1)),
  mv_ 12 70] [3, 8, 9, 10, 11, 12])
def Jj : Af := .seq (.seq (.ops [mv_ 65 12,
  mv_ 66 8,
  po_ 67 (.lenV (.t 66)),
  po_ 68 (.bin 3 .lss (.t 65) (.t 67))] [3, 8, 9, 10, 11, 12, 68])
 (.cond (.t 68)
 (.skip)
 (.exit 6)))
 JM
def IJ : Af := .block 6 (.loop [3, 8, 9, 10, 11, 12] Jj)
def Io : Af := .ops [mv_ 82 9,
  mv_ 83 11,
  po_ 84 (.conv .u32 (.t 83)),
  so_ 85 (.call 38 [.t 82, .t 84]),
  mv_ 9 85] [3, 8, 9, 10]
def Jm : Af := .seq (.seq (.ops [po_ 12 (.mov (ci_ 0))] [3, 8, 9, 10, 11, 12])
 IJ)
 Io
def I4 : Af := .ops [mv_ 63 10,
  po_ 64 (.bin 3 .add (.t 63) (ci_ 1)),
  mv_ 10 64] [3, 8, 9, 10]
def IP : Af := .seq (.block 5 (.seq (.ops [po_ 11 (.mov (ci_ 0))] [3, 8, 9, 10, 11])
 Jm))
 I4
def Iy : Af := .seq (.seq (.ops [mv_ 61 10,
  po_ 62 (.bin 3 .lss (.t 61) (ci_ 256))] [3, 8, 9, 10, 62])
 (.cond (.t 62)
 (.skip)
 (.exit 4)))
 IP
def II : Af := .block 4 (.loop [3, 8, 9, 10] Iy)
def I7 : Af := .seq (.seq (.ops [mv_ 86 13,
  mv_ 87 8,
  po_ 88 (.lenV (.t 87)),
  po_ 89 (.bin 3 .lss (.t 86) (.t 88))] [3, 8, 9, 13, 89])
 (.cond (.t 89)
 (.skip)
 (.exit 8)))
 (.seq (.block 9 (.ops [mv_ 92 9,
  mv_ 93 8,
  mv_ 94 13,
  po_ 95 (.idxA 22 (.t 93) (.t 94)),
  po_ 96 (.fieldA 0 0 (.t 95)),
  po_ 97 (.slA 20 1 (.t 96) none none),
  so_ 98 (.app 1 1 5 (.t 92) (.t 97)),
  mv_ 9 98] [3, 8, 9, 13]))
 (.ops [mv_ 90 13,
  po_ 91 (.bin 3 .add (.t 90) (ci_ 1)),
  mv_ 13 91] [3, 8, 9, 13]))
def IL : Af := .block 8 (.own 9 1 (.loop [3, 8, 9, 13] I7))
def Jk : Af := .seq (.seq (.ops [mv_ 99 14,
  mv_ 100 8,
  po_ 101 (.lenV (.t 100)),
  po_ 102 (.bin 3 .lss (.t 99) (.t 101))] [3, 8, 9, 14, 102])
 (.cond (.t 102)
 (.skip)
 (.exit 10)))
 (.seq (.block 11 (.ops [mv_ 105 9,
  mv_ 106 8,
  mv_ 107 14,
  po_ 108 (.idxA 22 (.t 106) (.t 107)),
  po_ 109 (.fieldA 2 21 (.t 108)),
  po_ 110 (.load false 1 (.t 109)),
  so_ 111 (.call 38 [.t 105, .t 110]),
  mv_ 9 111] [3, 8, 9, 14]))
 (.ops [mv_ 103 14,
  po_ 104 (.bin 3 .add (.t 103) (ci_ 1)),
  mv_ 14 104] [3, 8, 9, 14]))
def Jc : Af := .block 10 (.loop [3, 8, 9, 14] Jk)
def IV : Af := .seq (.seq (.ops [mv_ 112 15,
  mv_ 113 8,
  po_ 114 (.lenV (.t 113)),
  po_ 115 (.bin 3 .lss (.t 112) (.t 114))] [3, 8, 9, 15, 115])
 (.cond (.t 115)
 (.skip)
 (.exit 12)))
 (.seq (.block 13 (.ops [mv_ 118 9,
  mv_ 119 8,
  mv_ 120 15,
  po_ 121 (.idxA 22 (.t 119) (.t 120)),
  po_ 122 (.fieldA 1 20 (.t 121)),
  po_ 123 (.load false 1 (.t 122)),
  po_ 124 (.conv .u32 (.t 123)),
  so_ 125 (.call 38 [.t 118, .t 124]),
  mv_ 9 125] [3, 8, 9, 15]))
 (.ops [mv_ 116 15,
  po_ 117 (.bin 3 .add (.t 116) (ci_ 1)),
  mv_ 15 117] [3, 8, 9, 15]))
def Jd : Af := .block 12 (.loop [3, 8, 9, 15] IV)
def EC : Af := .seq (.ops [mv_ 126 9,
  po_ 127 (.slA 20 1 (.t 3) none none),
  so_ 128 (.app 1 1 5 (.t 126) (.t 127)),
  mv_ 9 128] [9])
 (.seq (.ops [mv_ 129 9,
  so_ 130 (.call 39 [.t 129]),
  so_ 16 (.alloc (.arr 20 1 [.val (.int .u8 ((0 : Nat) : Int)), .val (.int .u8 ((0 : Nat) : Int)), .val (.int .u8 ((0 : Nat) : Int)), .val (.int .u8 ((0 : Nat) : Int)), .val (.int .u8 ((0 : Nat) : Int)), .val (.int .u8 ((0 : Nat) : Int)), .val (.int .u8 ((0 : Nat) : Int)), .val (.int .u8 ((0 : Nat) : Int)), .val (.int .u8 ((0 : Nat) : Int)), .val (.int .u8 ((0 : Nat) : Int)), .val (.int .u8 ((0 : Nat) : Int)), .val (.int .u8 ((0 : Nat) : Int)), .val (.int .u8 ((0 : Nat) : Int)), .val (.int .u8 ((0 : Nat) : Int)), .val (.int .u8 ((0 : Nat) : Int)), .val (.int .u8 ((0 : Nat) : Int)), .val (.int .u8 ((0 : Nat) : Int)), .val (.int .u8 ((0 : Nat) : Int)), .val (.int .u8 ((0 : Nat) : Int)), .val (.int .u8 ((0 : Nat) : Int))])),
  ⟨none, .s (.store 20 (.t 16) (.t 130)), none⟩] [9, 16])
 (.seq (.ops [mv_ 131 9,
  po_ 132 (.slA 20 1 (.t 16) none none),
  so_ 133 (.app 1 1 5 (.t 131) (.t 132)),
  mv_ 4 133,
  po_ 5 (.mov (ci_ 0))] [4, 5])
 (.ret)))
def Em : Af := .seq (.seq (.ops [po_ 15 (.mov (ci_ 0))] [3, 8, 9, 15])
 Jd)
 EC
def Ez : Af := .seq (.seq (.ops [po_ 14 (.mov (ci_ 0))] [3, 8, 9, 14])
 Jc)
 Em
def Ei : Af := .seq (.seq (.ops [po_ 13 (.mov (ci_ 0))] [3, 8, 9, 13])
 IL)
 Ez
def EE : Af := .seq (.seq (.ops [po_ 10 (.mov (ci_ 0))] [3, 8, 9, 10])
 II)
 Ei
def Jl : Af := .seq (.ops [mv_ 59 9,
  so_ 60 (.call 38 [.t 59, .c (.int .u32 ((2 : Nat) : Int))]),
  mv_ 9 60] [3, 8, 9])
 EE
def Es : Af := .seq (.ops [⟨some 58, .s (.bslice 1 4 (.val (.int .u8 ((0 : Nat) : Int))) [⟨0, .c (.int .u8 ((255 : Nat) : Int))⟩, ⟨1, .c (.int .u8 ((116 : Nat) : Int))⟩, ⟨2, .c (.int .u8 ((79 : Nat) : Int))⟩, ⟨3, .c (.int .u8 ((99 : Nat) : Int))⟩]), none⟩,
  mv_ 9 58] [3, 8, 9])
 Jl
def IG : Af := .seq (.ops [mv_ 56 0,
  so_ 57 (.call 37 [.t 56]),
  mv_ 8 57] [3, 8])
 Es
def Jb : Af := .seq (.seq (.ops [po_ 6 (.mov (ci_ 0))] [0, 3, 6])
 Jv)
 IG
def IR : Af := .seq (.seq (.ops [mv_ 17 0,
  po_ 18 (.lenV (.t 17)),
  po_ 19 (.bin 3 .gtr (.t 18) (ci_ 5000))] [0, 3, 19])
 (.cond (.t 19)
 (.seq (.ops [po_ 4 (.mov (.c (.slice none 0 0))),
   po_ 5 (.mov (ci_ 42))] [4, 5])
  (.ret))
 (.skip)))
 Jb
def OE : Af := .seq (.ops [so_ 3 (.box (.t 1)),
  po_ 4 (.mov (.c (.slice none 0 0))),
  po_ 5 (.mov (ci_ 0))] [0, 3])
 IR
def BN : List VR := [.tmp 4, .tmp 5]
theorem Vs : Tryd.f17.body.bind (trC Tryd.prog Tryd.f17.ntmps) = some (er OE) := by kernel_rfl
theorem VW : trR Tryd.prog Tryd.f17.results.toList = some BN := by kernel_rfl
def Hm := Ad JS.eq_1
def D9 := Ad JH.eq_1
def P8 := Ad Jw.eq_1
def PT := Ad Jz.eq_1
def P6 := Ad JP.eq_1
def Qj := Ad KC.eq_1
def Hq := Ad JI.eq_1
def PY := Ad Jv.eq_1
def Hr := Ad JM.eq_1
def DR := Ad Jj.eq_1
def OI := Ad IJ.eq_1
def O8 := Ad Io.eq_1
def OB := Ad Jm.eq_1
def Oq := Ad I4.eq_1
def Po := Ad IP.eq_1
def Gs := Ad Iy.eq_1
def O9 := Ad II.eq_1
def Gu := Ad I7.eq_1
def O4 := Ad IL.eq_1
def Gm := Ad Jk.eq_1
def Py := Ad Jc.eq_1
def GH := Ad IV.eq_1
def OG := Ad Jd.eq_1
def O3 := Ad EC.eq_1
def OO := Ad Em.eq_1
def OV := Ad Ez.eq_1
def Pq := Ad Ei.eq_1
def PG := Ad EE.eq_1
def NY := Ad Jl.eq_1
def Pg := Ad Es.eq_1
def Pm := Ad IG.eq_1
def Ot := Ad Jb.eq_1
def Ov := Ad IR.eq_1
def TM := Ad OE.eq_1
theorem Dl {K : TV → Prop} {e : Env} {H : List Ob} : res BN e H K = res [.tmp 4, .tmp 5] e H K := Aa rfl
def UM := Ia 134 Tryd.func17 Vs VW rfl

def NJ : Af := .seq (.seq (.draw 12 [mv_ 13 5,
  mv_ 14 3,
  po_ 15 (.lenV (.t 14)),
  po_ 16 (.bin 3 .lss (.t 13) (.t 15)),
  mv_ 17 16,
  ⟨some 18, .p (.mov (.t 3)), some ⟨17, true⟩⟩,
  ⟨some 19, .p (.mov (.t 5)), some ⟨17, true⟩⟩,
  ⟨some 20, .p (.idxA 22 (.t 18) (.t 19)), some ⟨17, true⟩⟩,
  ⟨some 21, .p (.fieldA 0 0 (.t 20)), some ⟨17, true⟩⟩,
  ⟨some 22, .p (.slA 20 1 (.t 21) none none), some ⟨17, true⟩⟩,
  ⟨some 23, .p (.b2s (.t 22)), some ⟨17, true⟩⟩,
  ⟨some 24, .p (.mov (.t 0)), some ⟨17, true⟩⟩,
  ⟨some 25, .p (.mov (.t 4)), some ⟨17, true⟩⟩,
  ⟨some 26, .p (.idxA 22 (.t 24) (.t 25)), some ⟨17, true⟩⟩,
  ⟨some 27, .p (.fieldA 0 0 (.t 26)), some ⟨17, true⟩⟩,
  ⟨some 28, .p (.slA 20 1 (.t 27) none none), some ⟨17, true⟩⟩,
  ⟨some 29, .p (.b2s (.t 28)), some ⟨17, true⟩⟩,
  ⟨some 30, .p (.bin 9 .lss (.t 23) (.t 29)), some ⟨17, true⟩⟩,
  po_ 31 (.pick (.t 17) (.t 30) (.c (.bool false)))] [0, 3, 4, 5, 31])
 (.cond (.t 31)
 (.skip)
 (.exit 2)))
 (.block 3 (.ops [mv_ 32 5,
  po_ 33 (.bin 3 .add (.t 32) (ci_ 1)),
  mv_ 5 33] [0, 3, 4, 5]))
def Ny : Af := .seq (.ops [mv_ 39 6,
  mv_ 40 0,
  mv_ 41 4,
  po_ 42 (.idxA 22 (.t 40) (.t 41)),
  po_ 43 (.load true 22 (.t 42)),
  ⟨some 44, .s (.bslice 22 1 (.agg [.arr 20 1 [.val (.int .u8 ((0 : Nat) : Int)), .val (.int .u8 ((0 : Nat) : Int)), .val (.int .u8 ((0 : Nat) : Int)), .val (.int .u8 ((0 : Nat) : Int)), .val (.int .u8 ((0 : Nat) : Int)), .val (.int .u8 ((0 : Nat) : Int)), .val (.int .u8 ((0 : Nat) : Int)), .val (.int .u8 ((0 : Nat) : Int)), .val (.int .u8 ((0 : Nat) : Int)), .val (.int .u8 ((0 : Nat) : Int)), .val (.int .u8 ((0 : Nat) : Int)), .val (.int .u8 ((0 : Nat) : Int)), .val (.int .u8 ((0 : Nat) : Int)), .val (.int .u8 ((0 : Nat) : Int)), .val (.int .u8 ((0 : Nat) : Int)), .val (.int .u8 ((0 : Nat) : Int)), .val (.int .u8 ((0 : Nat) : Int)), .val (.int .u8 ((0 : Nat) : Int)), .val (.int .u8 ((0 : Nat) : Int)), .val (.int .u8 ((0 : Nat) : Int))], .val (.int .i64 ((0 : Nat) : Int)), .val (.int .u32 ((0 : Nat) : Int))]) [⟨0, .t 43⟩]), none⟩,
  so_ 45 (.app 22 40 81 (.t 39) (.t 44)),
  mv_ 6 45] [0, 3, 4, 5, 6])
 (.ops [mv_ 46 6,
  mv_ 47 3,
  mv_ 48 5,
  po_ 49 (.slV 22 (.t 47) (some (.t 48)) none),
  so_ 50 (.app 22 40 81 (.t 46) (.t 49)),
  mv_ 3 50] [0, 3, 4])
def NG : Af := .seq (.ops [mv_ 34 6,
  mv_ 35 3,
  mv_ 36 5,
  po_ 37 (.slV 22 (.t 35) none (some (.t 36))),
  so_ 38 (.app 22 40 81 (.t 34) (.t 37)),
  mv_ 6 38] [0, 3, 4, 5, 6])
 Ny
def GZ : Af := .seq (.ops [po_ 6 (.mov (.c (.slice none 0 0)))] [0, 3, 4, 5, 6])
 NG
def NF : Af := .seq (.block 2 (.own 3 22 (.loop [0, 3, 4, 5] NJ)))
 GZ
def Np : Af := .ops [mv_ 11 4,
  po_ 12 (.bin 3 .add (.t 11) (ci_ 1)),
  mv_ 4 12] [0, 3, 4]
def Nw : Af := .seq (.block 1 (.seq (.ops [po_ 5 (.mov (ci_ 0))] [0, 3, 4, 5])
 NF))
 Np
def NH : Af := .seq (.seq (.ops [mv_ 7 4,
  mv_ 8 0,
  po_ 9 (.lenV (.t 8)),
  po_ 10 (.bin 3 .lss (.t 7) (.t 9))] [0, 3, 4, 10])
 (.cond (.t 10)
 (.skip)
 (.exit 0)))
 Nw
def ND : Af := .block 0 (.own 3 22 (.loop [0, 3, 4] NH))
def LK : Af := .seq (.ops [mv_ 51 3,
  mv_ 2 51] [2])
 (.ret)
def Mc : Af := .seq (.seq (.ops [po_ 4 (.mov (ci_ 0))] [0, 3, 4])
 ND)
 LK
def Ls : Af := .seq (.ops [po_ 3 (.mov (.c (.slice none 0 0)))] [0, 3])
 Mc
def Tz : Af := .seq (.ops [po_ 2 (.mov (.c (.slice none 0 0)))] [0])
 Ls
def SH : List VR := [.tmp 2]
theorem YA : Tryd.f37.body.bind (trC Tryd.prog Tryd.f37.ntmps) = some (er Tz) := by kernel_rfl
theorem Yq : trR Tryd.prog Tryd.f37.results.toList = some SH := by kernel_rfl
def EZ := Ad NJ.eq_1
def Tj := Ad Ny.eq_1
def Tq := Ad NG.eq_1
def Td := Ad GZ.eq_1
def RN := Ad NF.eq_1
def J8 := Ad Np.eq_1
def RQ := Ad Nw.eq_1
def Ko := Ad NH.eq_1
def Tm := Ad ND.eq_1
def Rt := Ad LK.eq_1
def QW := Ad Mc.eq_1
def QV := Ad Ls.eq_1
def VP := Ad Tz.eq_1
theorem Vp {K : TV → Prop} {e : Env} {H : List Ob} : res SH e H K = res [.tmp 2] e H K := Aa rfl
def Wy := Ia 52 Tryd.func37 YA Yq rfl

def Ry : Af := .seq (.ops [mv_ 5 0,
  mv_ 6 1,
  po_ 7 (.bin 40 .shr (.t 6) (.c (.int .u64 ((24 : Nat) : Int)))),
  po_ 8 (.conv .u8 (.t 7)),
  mv_ 9 1,
  po_ 10 (.bin 40 .shr (.t 9) (.c (.int .u64 ((16 : Nat) : Int)))),
  po_ 11 (.conv .u8 (.t 10)),
  mv_ 12 1,
  po_ 13 (.bin 40 .shr (.t 12) (.c (.int .u64 ((8 : Nat) : Int)))),
  po_ 14 (.conv .u8 (.t 13)),
  mv_ 15 1,
  po_ 16 (.conv .u8 (.t 15)),
  ⟨some 17, .s (.bslice 1 4 (.val (.int .u8 ((0 : Nat) : Int))) [⟨0, .t 8⟩, ⟨1, .t 11⟩, ⟨2, .t 14⟩, ⟨3, .t 16⟩]), none⟩,
  so_ 18 (.app 1 1 5 (.t 5) (.t 17)),
  mv_ 4 18] [4])
 (.ret)
def Xp : Af := .seq (.ops [po_ 4 (.mov (.c (.slice none 0 0)))] [0, 1])
 Ry
def Xm : List VR := [.tmp 4]
theorem Acu : Tryd.f38.body.bind (trC Tryd.prog Tryd.f38.ntmps) = some (er Xp) := by kernel_rfl
theorem Ab1 : trR Tryd.prog Tryd.f38.results.toList = some Xm := by kernel_rfl
def Wp := Ad Ry.eq_1
def Zd := Ad Xp.eq_1
theorem ZA {K : TV → Prop} {e : Env} {H : List Ob} : res Xm e H K = res [.tmp 4] e H K := Aa rfl
def AbO := (And.intro (And.intro @Wp @Zd) @ZA)
def AaT := Ia 19 Tryd.func38 Acu Ab1 rfl

def LZ : Af := .seq (.ops [mv_ 51 0,
  mv_ 52 6,
  po_ 53 (.bin 3 .mul (ci_ 24) (.t 52)),
  po_ 54 (.bin 3 .add (ci_ 1032) (.t 53)),
  mv_ 55 8,
  po_ 56 (.bin 3 .mul (ci_ 4) (.t 55)),
  po_ 57 (.bin 3 .add (.t 54) (.t 56)),
  po_ 58 (.slV 1 (.t 51) (some (.t 57)) none),
  so_ 59 (.call 83 [.t 58]),
  po_ 60 (.fieldA 1 20 (.t 9)),
  ⟨none, .s (.store 1 (.t 60) (.t 59)), none⟩] [0, 3, 5, 6, 7, 8, 9])
 (.ops [mv_ 61 7,
  po_ 62 (.load true 22 (.t 9)),
  ⟨some 63, .s (.bslice 22 1 (.agg [.arr 20 1 [.val (.int .u8 ((0 : Nat) : Int)), .val (.int .u8 ((0 : Nat) : Int)), .val (.int .u8 ((0 : Nat) : Int)), .val (.int .u8 ((0 : Nat) : Int)), .val (.int .u8 ((0 : Nat) : Int)), .val (.int .u8 ((0 : Nat) : Int)), .val (.int .u8 ((0 : Nat) : Int)), .val (.int .u8 ((0 : Nat) : Int)), .val (.int .u8 ((0 : Nat) : Int)), .val (.int .u8 ((0 : Nat) : Int)), .val (.int .u8 ((0 : Nat) : Int)), .val (.int .u8 ((0 : Nat) : Int)), .val (.int .u8 ((0 : Nat) : Int)), .val (.int .u8 ((0 : Nat) : Int)), .val (.int .u8 ((0 : Nat) : Int)), .val (.int .u8 ((0 : Nat) : Int)), .val (.int .u8 ((0 : Nat) : Int)), .val (.int .u8 ((0 : Nat) : Int)), .val (.int .u8 ((0 : Nat) : Int)), .val (.int .u8 ((0 : Nat) : Int))], .val (.int .i64 ((0 : Nat) : Int)), .val (.int .u32 ((0 : Nat) : Int))]) [⟨0, .t 62⟩]), none⟩,
  so_ 64 (.app 22 40 81 (.t 61) (.t 63)),
  mv_ 7 64] [0, 3, 5, 6, 7, 8])
def KW : Af := .seq (.ops [mv_ 40 0,
  mv_ 41 6,
  po_ 42 (.bin 3 .mul (ci_ 20) (.t 41)),
  po_ 43 (.bin 3 .add (ci_ 1032) (.t 42)),
  mv_ 44 8,
  po_ 45 (.bin 3 .mul (ci_ 4) (.t 44)),
  po_ 46 (.bin 3 .add (.t 43) (.t 45)),
  po_ 47 (.slV 1 (.t 40) (some (.t 46)) none),
  so_ 48 (.call 83 [.t 47]),
  po_ 49 (.conv .u32 (.t 48)),
  po_ 50 (.fieldA 2 21 (.t 9)),
  ⟨none, .s (.store 1 (.t 50) (.t 49)), none⟩] [0, 3, 5, 6, 7, 8, 9])
 LZ
def LJ : Af := .seq (.draw 3 [po_ 32 (.fieldA 0 0 (.t 9)),
  po_ 33 (.slA 20 1 (.t 32) none none),
  mv_ 34 0,
  mv_ 35 8,
  po_ 36 (.bin 3 .mul (ci_ 20) (.t 35)),
  po_ 37 (.bin 3 .add (ci_ 1032) (.t 36)),
  po_ 38 (.slV 1 (.t 34) (some (.t 37)) none),
  so_ 39 (.copy 1 (.t 33) (.t 38))] [0, 3, 5, 6, 7, 8, 9])
 KW
def LM : Af := .seq (.block 1 (.seq (.ops [so_ 9 (.alloc (.agg [.arr 20 1 [.val (.int .u8 ((0 : Nat) : Int)), .val (.int .u8 ((0 : Nat) : Int)), .val (.int .u8 ((0 : Nat) : Int)), .val (.int .u8 ((0 : Nat) : Int)), .val (.int .u8 ((0 : Nat) : Int)), .val (.int .u8 ((0 : Nat) : Int)), .val (.int .u8 ((0 : Nat) : Int)), .val (.int .u8 ((0 : Nat) : Int)), .val (.int .u8 ((0 : Nat) : Int)), .val (.int .u8 ((0 : Nat) : Int)), .val (.int .u8 ((0 : Nat) : Int)), .val (.int .u8 ((0 : Nat) : Int)), .val (.int .u8 ((0 : Nat) : Int)), .val (.int .u8 ((0 : Nat) : Int)), .val (.int .u8 ((0 : Nat) : Int)), .val (.int .u8 ((0 : Nat) : Int)), .val (.int .u8 ((0 : Nat) : Int)), .val (.int .u8 ((0 : Nat) : Int)), .val (.int .u8 ((0 : Nat) : Int)), .val (.int .u8 ((0 : Nat) : Int))], .val (.int .i64 ((0 : Nat) : Int)), .val (.int .u32 ((0 : Nat) : Int))]))] [0, 3, 5, 6, 7, 8, 9])
 LJ))
 (.ops [mv_ 30 8,
  po_ 31 (.bin 3 .add (.t 30) (ci_ 1)),
  mv_ 8 31] [0, 3, 5, 6, 7, 8])
def Lu : Af := .seq (.seq (.ops [mv_ 27 8,
  mv_ 28 6,
  po_ 29 (.bin 3 .lss (.t 27) (.t 28))] [0, 3, 5, 6, 7, 8, 29])
 (.cond (.t 29)
 (.skip)
 (.exit 0)))
 LM
def La : Af := .block 0 (.own 7 22 (.loop [0, 3, 5, 6, 7, 8] Lu))
def Ll : Af := .seq (.seq (.ops [mv_ 78 11,
  po_ 79 (.bin 3 .neq (.t 78) (ci_ 0)),
  mv_ 80 79,
  ⟨some 81, .p (.mov (.t 10)), some ⟨80, false⟩⟩,
  ⟨some 82, .p (.b2s (.t 81)), some ⟨80, false⟩⟩,
  ⟨some 83, .p (.mov (.t 0)), some ⟨80, false⟩⟩,
  ⟨some 84, .p (.b2s (.t 83)), some ⟨80, false⟩⟩,
  ⟨some 85, .p (.bin 9 .neq (.t 82) (.t 84)), some ⟨80, false⟩⟩,
  po_ 86 (.pick (.t 80) (.c (.bool true)) (.t 85))] [3, 5, 7, 86])
 (.cond (.t 86)
 (.seq (.ops [po_ 87 (.buildA 20 1 [.val (.int .u8 ((0 : Nat) : Int)), .val (.int .u8 ((0 : Nat) : Int)), .val (.int .u8 ((0 : Nat) : Int)), .val (.int .u8 ((0 : Nat) : Int)), .val (.int .u8 ((0 : Nat) : Int)), .val (.int .u8 ((0 : Nat) : Int)), .val (.int .u8 ((0 : Nat) : Int)), .val (.int .u8 ((0 : Nat) : Int)), .val (.int .u8 ((0 : Nat) : Int)), .val (.int .u8 ((0 : Nat) : Int)), .val (.int .u8 ((0 : Nat) : Int)), .val (.int .u8 ((0 : Nat) : Int)), .val (.int .u8 ((0 : Nat) : Int)), .val (.int .u8 ((0 : Nat) : Int)), .val (.int .u8 ((0 : Nat) : Int)), .val (.int .u8 ((0 : Nat) : Int)), .val (.int .u8 ((0 : Nat) : Int)), .val (.int .u8 ((0 : Nat) : Int)), .val (.int .u8 ((0 : Nat) : Int)), .val (.int .u8 ((0 : Nat) : Int))] []),
   po_ 2 (.mov (.c (.slice none 0 0))),
   ⟨none, .s (.store 20 (.t 3) (.t 87)), none⟩,
   po_ 4 (.mov (.c (.bool false)))] [2, 3, 4])
  (.ret))
 (.skip)))
 (.seq (.draw 1 [mv_ 88 7,
  po_ 89 (.load true 20 (.t 5)),
  mv_ 2 88,
  ⟨none, .s (.store 20 (.t 3) (.t 89)), none⟩,
  po_ 4 (.mov (.c (.bool true)))] [2, 3, 4])
 (.ret))
def Lh : Af := .seq (.ops [mv_ 73 7,
  po_ 74 (.load true 20 (.t 5)),
  so_ 75 (.call 17 [.t 73, .t 74]),
  mv_ 72 75,
  po_ 76 (.ext 0 (.t 72)),
  po_ 77 (.ext 1 (.t 72)),
  mv_ 10 76,
  mv_ 11 77] [0, 3, 5, 7, 10, 11])
 Ll
def L8 : Af := .seq (.draw 2 [po_ 65 (.slA 20 1 (.t 5) none none),
  mv_ 66 0,
  mv_ 67 0,
  po_ 68 (.lenV (.t 67)),
  po_ 69 (.bin 3 .sub (.t 68) (ci_ 40)),
  po_ 70 (.slV 1 (.t 66) (some (.t 69)) none),
  so_ 71 (.copy 1 (.t 65) (.t 70))] [0, 3, 5, 7])
 Lh
def Kv : Af := .seq (.seq (.ops [po_ 8 (.mov (ci_ 0))] [0, 3, 5, 6, 7, 8])
 La)
 L8
def KF : Af := .seq (.ops [po_ 7 (.mov (.c (.slice none 0 0)))] [0, 3, 5, 6, 7])
 Kv
def JJ : Af := .seq (.ops [mv_ 23 0,
  po_ 24 (.lenV (.t 23)),
  po_ 25 (.bin 3 .sub (.t 24) (ci_ 1072)),
  po_ 26 (.bin 3 .quo (.t 25) (ci_ 28)),
  mv_ 6 26] [0, 3, 5, 6])
 KF
def J7 : Af := .seq (.seq (.ops [mv_ 12 0,
  po_ 13 (.lenV (.t 12)),
  po_ 14 (.bin 3 .lss (.t 13) (ci_ 1072)),
  mv_ 15 14,
  ⟨some 16, .p (.mov (.t 0)), some ⟨15, false⟩⟩,
  ⟨some 17, .p (.lenV (.t 16)), some ⟨15, false⟩⟩,
  ⟨some 18, .p (.bin 3 .sub (.t 17) (ci_ 1072)), some ⟨15, false⟩⟩,
  ⟨some 19, .p (.bin 3 .rem (.t 18) (ci_ 28)), some ⟨15, false⟩⟩,
  ⟨some 20, .p (.bin 3 .neq (.t 19) (ci_ 0)), some ⟨15, false⟩⟩,
  po_ 21 (.pick (.t 15) (.c (.bool true)) (.t 20))] [0, 3, 5, 21])
 (.cond (.t 21)
 (.seq (.draw 1 [po_ 22 (.load true 20 (.t 5)),
   po_ 2 (.mov (.c (.slice none 0 0))),
   ⟨none, .s (.store 20 (.t 3) (.t 22)), none⟩,
   po_ 4 (.mov (.c (.bool false)))] [2, 3, 4])
  (.ret))
 (.skip)))
 JJ
def JQ : Af := .seq (.ops [so_ 5 (.alloc (.arr 20 1 [.val (.int .u8 ((0 : Nat) : Int)), .val (.int .u8 ((0 : Nat) : Int)), .val (.int .u8 ((0 : Nat) : Int)), .val (.int .u8 ((0 : Nat) : Int)), .val (.int .u8 ((0 : Nat) : Int)), .val (.int .u8 ((0 : Nat) : Int)), .val (.int .u8 ((0 : Nat) : Int)), .val (.int .u8 ((0 : Nat) : Int)), .val (.int .u8 ((0 : Nat) : Int)), .val (.int .u8 ((0 : Nat) : Int)), .val (.int .u8 ((0 : Nat) : Int)), .val (.int .u8 ((0 : Nat) : Int)), .val (.int .u8 ((0 : Nat) : Int)), .val (.int .u8 ((0 : Nat) : Int)), .val (.int .u8 ((0 : Nat) : Int)), .val (.int .u8 ((0 : Nat) : Int)), .val (.int .u8 ((0 : Nat) : Int)), .val (.int .u8 ((0 : Nat) : Int)), .val (.int .u8 ((0 : Nat) : Int)), .val (.int .u8 ((0 : Nat) : Int))]))] [0, 3, 5])
 J7
def Qy : Af := .seq (.ops [po_ 2 (.mov (.c (.slice none 0 0))),
  so_ 3 (.alloc (.arr 20 1 [.val (.int .u8 ((0 : Nat) : Int)), .val (.int .u8 ((0 : Nat) : Int)), .val (.int .u8 ((0 : Nat) : Int)), .val (.int .u8 ((0 : Nat) : Int)), .val (.int .u8 ((0 : Nat) : Int)), .val (.int .u8 ((0 : Nat) : Int)), .val (.int .u8 ((0 : Nat) : Int)), .val (.int .u8 ((0 : Nat) : Int)), .val (.int .u8 ((0 : Nat) : Int)), .val (.int .u8 ((0 : Nat) : Int)), .val (.int .u8 ((0 : Nat) : Int)), .val (.int .u8 ((0 : Nat) : Int)), .val (.int .u8 ((0 : Nat) : Int)), .val (.int .u8 ((0 : Nat) : Int)), .val (.int .u8 ((0 : Nat) : Int)), .val (.int .u8 ((0 : Nat) : Int)), .val (.int .u8 ((0 : Nat) : Int)), .val (.int .u8 ((0 : Nat) : Int)), .val (.int .u8 ((0 : Nat) : Int)), .val (.int .u8 ((0 : Nat) : Int))])),
  po_ 4 (.mov (.c (.bool false)))] [0, 3])
 JQ
def QC : List VR := [.tmp 2, .cell 3 true 20, .tmp 4]
theorem Wx : Tryd.f42.body.bind (trC Tryd.prog Tryd.f42.ntmps) = some (er Qy) := by kernel_rfl
theorem WF : trR Tryd.prog Tryd.f42.results.toList = some QC := by kernel_rfl
def Rq := Ad LZ.eq_1
def Rj := Ad KW.eq_1
def QT := Ad LJ.eq_1
def I5 := Ad LM.eq_1
def Jg := Ad Lu.eq_1
def QZ := Ad La.eq_1
def Eo := Ad Ll.eq_1
def QI := Ad Lh.eq_1
def Q4 := Ad L8.eq_1
def PZ := Ad Kv.eq_1
def Qe := Ad KF.eq_1
def PV := Ad JJ.eq_1
def D6 := Ad J7.eq_1
def DU := Ad JQ.eq_1
def GY := Ad Qy.eq_1
theorem CW {K : TV → Prop} {e : Env} {H : List Ob} : res QC e H K = res [.tmp 2, .cell 3 true 20, .tmp 4] e H K := Aa rfl
def Vh := Ia 90 Tryd.func42 Wx WF rfl

def Nr : Af := .seq (.draw 17 [mv_ 3 0,
  po_ 4 (.idxA 1 (.t 3) (ci_ 0)),
  po_ 5 (.load false 1 (.t 4)),
  po_ 6 (.conv .i64 (.t 5)),
  po_ 7 (.bin 3 .shl (.t 6) (.c (.int .u64 ((24 : Nat) : Int)))),
  mv_ 8 0,
  po_ 9 (.idxA 1 (.t 8) (ci_ 1)),
  po_ 10 (.load false 1 (.t 9)),
  po_ 11 (.conv .i64 (.t 10)),
  po_ 12 (.bin 3 .shl (.t 11) (.c (.int .u64 ((16 : Nat) : Int)))),
  po_ 13 (.bin 3 .add (.t 7) (.t 12)),
  mv_ 14 0,
  po_ 15 (.idxA 1 (.t 14) (ci_ 2)),
  po_ 16 (.load false 1 (.t 15)),
  po_ 17 (.conv .i64 (.t 16)),
  po_ 18 (.bin 3 .shl (.t 17) (.c (.int .u64 ((8 : Nat) : Int)))),
  po_ 19 (.bin 3 .add (.t 13) (.t 18)),
  mv_ 20 0,
  po_ 21 (.idxA 1 (.t 20) (ci_ 3)),
  po_ 22 (.load false 1 (.t 21)),
  po_ 23 (.conv .i64 (.t 22)),
  po_ 24 (.bin 3 .add (.t 19) (.t 23)),
  mv_ 2 24] [2])
 (.ret)
def RZ : Af := .seq (.ops [po_ 2 (.mov (ci_ 0))] [0])
 Nr
def SV : List VR := [.tmp 2]
theorem XW : Tryd.f83.body.bind (trC Tryd.prog Tryd.f83.ntmps) = some (er RZ) := by kernel_rfl
theorem YF : trR Tryd.prog Tryd.f83.results.toList = some SV := by kernel_rfl
def Tn := Ad Nr.eq_1
def Vj := Ad RZ.eq_1
theorem Vg {K : TV → Prop} {e : Env} {H : List Ob} : res SV e H K = res [.tmp 2] e H K := Aa rfl
def XJ := (And.intro (And.intro @Tn @Vj) @Vg)
def WW := Ia 25 Tryd.func83 XW YF rfl

def NC : Af := .seq (.block 1 (.draw 11 [mv_ 11 3,
  mv_ 12 0,
  mv_ 13 4,
  po_ 14 (.idxA 22 (.t 12) (.t 13)),
  po_ 15 (.fieldA 0 0 (.t 14)),
  po_ 16 (.load true 20 (.t 15)),
  mv_ 17 0,
  mv_ 18 4,
  po_ 19 (.idxA 22 (.t 17) (.t 18)),
  po_ 20 (.fieldA 1 20 (.t 19)),
  po_ 21 (.load false 1 (.t 20)),
  mv_ 22 0,
  mv_ 23 4,
  po_ 24 (.idxA 22 (.t 22) (.t 23)),
  po_ 25 (.fieldA 2 21 (.t 24)),
  po_ 26 (.load false 1 (.t 25)),
  ⟨some 27, .p (.build [.arr 20 1 [.val (.int .u8 ((0 : Nat) : Int)), .val (.int .u8 ((0 : Nat) : Int)), .val (.int .u8 ((0 : Nat) : Int)), .val (.int .u8 ((0 : Nat) : Int)), .val (.int .u8 ((0 : Nat) : Int)), .val (.int .u8 ((0 : Nat) : Int)), .val (.int .u8 ((0 : Nat) : Int)), .val (.int .u8 ((0 : Nat) : Int)), .val (.int .u8 ((0 : Nat) : Int)), .val (.int .u8 ((0 : Nat) : Int)), .val (.int .u8 ((0 : Nat) : Int)), .val (.int .u8 ((0 : Nat) : Int)), .val (.int .u8 ((0 : Nat) : Int)), .val (.int .u8 ((0 : Nat) : Int)), .val (.int .u8 ((0 : Nat) : Int)), .val (.int .u8 ((0 : Nat) : Int)), .val (.int .u8 ((0 : Nat) : Int)), .val (.int .u8 ((0 : Nat) : Int)), .val (.int .u8 ((0 : Nat) : Int)), .val (.int .u8 ((0 : Nat) : Int))], .val (.int .i64 ((0 : Nat) : Int)), .val (.int .u32 ((0 : Nat) : Int))] [20, 1, 1] [⟨0, .t 16⟩, ⟨1, .t 21⟩, ⟨2, .t 26⟩]), none⟩,
  ⟨some 28, .s (.bslice 22 1 (.agg [.arr 20 1 [.val (.int .u8 ((0 : Nat) : Int)), .val (.int .u8 ((0 : Nat) : Int)), .val (.int .u8 ((0 : Nat) : Int)), .val (.int .u8 ((0 : Nat) : Int)), .val (.int .u8 ((0 : Nat) : Int)), .val (.int .u8 ((0 : Nat) : Int)), .val (.int .u8 ((0 : Nat) : Int)), .val (.int .u8 ((0 : Nat) : Int)), .val (.int .u8 ((0 : Nat) : Int)), .val (.int .u8 ((0 : Nat) : Int)), .val (.int .u8 ((0 : Nat) : Int)), .val (.int .u8 ((0 : Nat) : Int)), .val (.int .u8 ((0 : Nat) : Int)), .val (.int .u8 ((0 : Nat) : Int)), .val (.int .u8 ((0 : Nat) : Int)), .val (.int .u8 ((0 : Nat) : Int)), .val (.int .u8 ((0 : Nat) : Int)), .val (.int .u8 ((0 : Nat) : Int)), .val (.int .u8 ((0 : Nat) : Int)), .val (.int .u8 ((0 : Nat) : Int))], .val (.int .i64 ((0 : Nat) : Int)), .val (.int .u32 ((0 : Nat) : Int))]) [⟨0, .t 27⟩]), none⟩,
  so_ 29 (.app 22 40 81 (.t 11) (.t 28)),
  mv_ 3 29] [0, 3, 4]))
 (.ops [mv_ 9 4,
  po_ 10 (.bin 3 .add (.t 9) (ci_ 1)),
  mv_ 4 10] [0, 3, 4])
def Nu : Af := .seq (.seq (.ops [mv_ 5 4,
  mv_ 6 0,
  po_ 7 (.lenV (.t 6)),
  po_ 8 (.bin 3 .lss (.t 5) (.t 7))] [0, 3, 4, 8])
 (.cond (.t 8)
 (.skip)
 (.exit 0)))
 NC
def Nz : Af := .block 0 (.own 3 22 (.loop [0, 3, 4] Nu))
def NE : Af := .seq (.ops [mv_ 30 3,
  mv_ 2 30] [2])
 (.ret)
def NI : Af := .seq (.seq (.ops [po_ 4 (.mov (ci_ 0))] [0, 3, 4])
 Nz)
 NE
def Nk : Af := .seq (.ops [po_ 3 (.mov (.c (.slice none 0 0)))] [0, 3])
 NI
def SG : Af := .seq (.ops [po_ 2 (.mov (.c (.slice none 0 0)))] [0])
 Nk
def RD : List VR := [.tmp 2]
theorem Yo : Tryd.f16.body.bind (trC Tryd.prog Tryd.f16.ntmps) = some (er SG) := by kernel_rfl
theorem Yv : trR Tryd.prog Tryd.f16.results.toList = some RD := by kernel_rfl
def RX := Ad NC.eq_1
def Si := Ad Nu.eq_1
def SX := Ad Nz.eq_1
def Sv := Ad NE.eq_1
def RS := Ad NI.eq_1
def Sj := Ad Nk.eq_1
def VX := Ad SG.eq_1
theorem Vu {K : TV → Prop} {e : Env} {H : List Ob} : res RD e H K = res [.tmp 2] e H K := Aa rfl
def MB := (And.intro (And.intro (And.intro @RX @Si) (And.intro @SX @Sv)) (And.intro (And.intro @RS @Sj) (And.intro @VX @Vu)))
def WS := Ia 31 Tryd.func16 Yo Yv rfl

def J3 : Af := .seq (.ops [mv_ 42 11,
  mv_ 43 42,
  ⟨some 44, .p (.mov (.t 6)), some ⟨43, true⟩⟩,
  ⟨some 45, .p (.lenV (.t 44)), some ⟨43, true⟩⟩,
  ⟨some 46, .p (.bin 3 .eql (.t 45) (ci_ 0)), some ⟨43, true⟩⟩,
  po_ 47 (.pick (.t 43) (.t 46) (.c (.bool false))),
  mv_ 48 47,
  ⟨some 49, .p (.load true 20 (.t 7)), some ⟨48, true⟩⟩,
  ⟨some 50, .p (.buildA 20 1 [.val (.int .u8 ((0 : Nat) : Int)), .val (.int .u8 ((0 : Nat) : Int)), .val (.int .u8 ((0 : Nat) : Int)), .val (.int .u8 ((0 : Nat) : Int)), .val (.int .u8 ((0 : Nat) : Int)), .val (.int .u8 ((0 : Nat) : Int)), .val (.int .u8 ((0 : Nat) : Int)), .val (.int .u8 ((0 : Nat) : Int)), .val (.int .u8 ((0 : Nat) : Int)), .val (.int .u8 ((0 : Nat) : Int)), .val (.int .u8 ((0 : Nat) : Int)), .val (.int .u8 ((0 : Nat) : Int)), .val (.int .u8 ((0 : Nat) : Int)), .val (.int .u8 ((0 : Nat) : Int)), .val (.int .u8 ((0 : Nat) : Int)), .val (.int .u8 ((0 : Nat) : Int)), .val (.int .u8 ((0 : Nat) : Int)), .val (.int .u8 ((0 : Nat) : Int)), .val (.int .u8 ((0 : Nat) : Int)), .val (.int .u8 ((0 : Nat) : Int))] []), some ⟨48, true⟩⟩,
  ⟨some 51, .p (.gen (.eqA 20 false) [.t 49, .t 50]), some ⟨48, true⟩⟩,
  po_ 52 (.pick (.t 48) (.t 51) (.c (.bool false))),
  mv_ 53 52,
  ⟨some 54, .p (.mov (.t 9)), some ⟨53, true⟩⟩,
  ⟨some 55, .p (.bin 3 .eql (.t 54) (ci_ 0)), some ⟨53, true⟩⟩,
  po_ 56 (.pick (.t 53) (.t 55) (.c (.bool false))),
  mv_ 57 56,
  ⟨some 58, .p (.mov (.t 8)), some ⟨57, true⟩⟩,
  ⟨some 59, .s (.call 13 [.t 58]), some ⟨57, true⟩⟩,
  ⟨some 60, .p (.bin 32 .eql (.t 59) (ci_ 42)), some ⟨57, true⟩⟩,
  po_ 61 (.pick (.t 57) (.t 60) (.c (.bool false))),
  mv_ 62 61,
  ⟨some 63, .p (.mov (.t 10)), some ⟨62, true⟩⟩,
  ⟨some 64, .s (.call 13 [.t 63]), some ⟨62, true⟩⟩,
  ⟨some 65, .p (.bin 32 .eql (.t 64) (ci_ 42)), some ⟨62, true⟩⟩,
  po_ 66 (.pick (.t 62) (.t 65) (.c (.bool false))),
  mv_ 4 66] [4])
 (.ret)
def Ju : Af := .cond (.t 41)
 J3
 (.skip)
def JB : Af := .seq (.ops [mv_ 99 10,
  so_ 100 (.call 13 [.t 99]),
  po_ 101 (.bin 32 .eql (.t 100) (ci_ 0)),
  mv_ 102 101,
  ⟨some 103, .p (.mov (.t 9)), some ⟨102, true⟩⟩,
  ⟨some 104, .p (.mov (.t 12)), some ⟨102, true⟩⟩,
  ⟨some 105, .p (.mov (.t 16)), some ⟨102, true⟩⟩,
  ⟨some 106, .p (.idxA 22 (.t 104) (.t 105)), some ⟨102, true⟩⟩,
  ⟨some 107, .p (.fieldA 1 20 (.t 106)), some ⟨102, true⟩⟩,
  ⟨some 108, .p (.load false 1 (.t 107)), some ⟨102, true⟩⟩,
  ⟨some 109, .p (.bin 3 .eql (.t 103) (.t 108)), some ⟨102, true⟩⟩,
  po_ 110 (.pick (.t 102) (.t 109) (.c (.bool false))),
  mv_ 4 110] [4])
 (.ret)
def KA : Af := .cond (.t 98)
 JB
 (.skip)
def JX : Af := .seq (.block 1 (.seq (.draw 5 [mv_ 92 12,
  mv_ 93 16,
  po_ 94 (.idxA 22 (.t 92) (.t 93)),
  po_ 95 (.fieldA 0 0 (.t 94)),
  po_ 96 (.load true 20 (.t 95)),
  po_ 97 (.load true 20 (.t 3)),
  po_ 98 (.gen (.eqA 20 false) [.t 96, .t 97])] [3, 9, 10, 12, 16, 98])
 KA))
 (.ops [mv_ 90 16,
  po_ 91 (.bin 3 .add (.t 90) (ci_ 1)),
  mv_ 16 91] [3, 9, 10, 12, 16])
def JL : Af := .seq (.seq (.ops [mv_ 86 16,
  mv_ 87 12,
  po_ 88 (.lenV (.t 87)),
  po_ 89 (.bin 3 .lss (.t 86) (.t 88))] [3, 9, 10, 12, 16, 89])
 (.cond (.t 89)
 (.skip)
 (.exit 0)))
 JX
def JK : Af := .block 0 (.loop [3, 9, 10, 12, 16] JL)
def JC : Af := .seq (.ops [mv_ 111 10,
  so_ 112 (.call 13 [.t 111]),
  po_ 113 (.bin 32 .eql (.t 112) (ci_ 50)),
  mv_ 114 113,
  ⟨some 115, .p (.mov (.t 9)), some ⟨114, true⟩⟩,
  ⟨some 116, .p (.bin 3 .eql (.t 115) (ci_ 0)), some ⟨114, true⟩⟩,
  po_ 117 (.pick (.t 114) (.t 116) (.c (.bool false))),
  mv_ 4 117] [4])
 (.ret)
def Jt : Af := .seq (.seq (.ops [po_ 16 (.mov (ci_ 0))] [3, 9, 10, 12, 16])
 JK)
 JC
def Jf : Af := .seq (.seq (.ops [mv_ 70 11,
  po_ 71 (.un .not (.t 70)),
  mv_ 72 71,
  ⟨some 73, .p (.mov (.t 15)), some ⟨72, false⟩⟩,
  ⟨some 74, .p (.un .not (.t 73)), some ⟨72, false⟩⟩,
  po_ 75 (.pick (.t 72) (.c (.bool true)) (.t 74)),
  mv_ 76 75,
  ⟨some 77, .p (.load true 20 (.t 7)), some ⟨76, false⟩⟩,
  ⟨some 78, .p (.load true 20 (.t 13)), some ⟨76, false⟩⟩,
  ⟨some 79, .p (.gen (.eqA 20 true) [.t 77, .t 78]), some ⟨76, false⟩⟩,
  po_ 80 (.pick (.t 76) (.c (.bool true)) (.t 79)),
  mv_ 81 80,
  ⟨some 82, .p (.mov (.t 8)), some ⟨81, false⟩⟩,
  ⟨some 83, .s (.call 13 [.t 82]), some ⟨81, false⟩⟩,
  ⟨some 84, .p (.bin 32 .neq (.t 83) (ci_ 0)), some ⟨81, false⟩⟩,
  po_ 85 (.pick (.t 81) (.c (.bool true)) (.t 84))] [3, 9, 10, 12, 85])
 (.cond (.t 85)
 (.seq (.ops [po_ 4 (.mov (.c (.bool false)))] [4])
  (.ret))
 (.skip)))
 Jt
def Ja : Af := .seq (.ops [mv_ 67 6,
  mv_ 68 12,
  so_ 69 (.call 43 [.t 67, .t 68]),
  mv_ 15 69] [3, 7, 8, 9, 10, 11, 12, 13, 15])
 Jf
def Jh : Af := .seq (.seq (.ops [mv_ 40 14,
  po_ 41 (.un .not (.t 40))] [3, 6, 7, 8, 9, 10, 11, 12, 13, 41])
 Ju)
 Ja
def IZ : Af := .seq (.ops [mv_ 35 0,
  so_ 36 (.call 42 [.t 35]),
  mv_ 34 36,
  po_ 37 (.ext 0 (.t 34)),
  po_ 38 (.ext 1 (.t 34)),
  po_ 39 (.ext 2 (.t 34)),
  so_ 13 (.alloc (.arr 20 1 [.val (.int .u8 ((0 : Nat) : Int)), .val (.int .u8 ((0 : Nat) : Int)), .val (.int .u8 ((0 : Nat) : Int)), .val (.int .u8 ((0 : Nat) : Int)), .val (.int .u8 ((0 : Nat) : Int)), .val (.int .u8 ((0 : Nat) : Int)), .val (.int .u8 ((0 : Nat) : Int)), .val (.int .u8 ((0 : Nat) : Int)), .val (.int .u8 ((0 : Nat) : Int)), .val (.int .u8 ((0 : Nat) : Int)), .val (.int .u8 ((0 : Nat) : Int)), .val (.int .u8 ((0 : Nat) : Int)), .val (.int .u8 ((0 : Nat) : Int)), .val (.int .u8 ((0 : Nat) : Int)), .val (.int .u8 ((0 : Nat) : Int)), .val (.int .u8 ((0 : Nat) : Int)), .val (.int .u8 ((0 : Nat) : Int)), .val (.int .u8 ((0 : Nat) : Int)), .val (.int .u8 ((0 : Nat) : Int)), .val (.int .u8 ((0 : Nat) : Int))])),
  mv_ 12 37,
  ⟨none, .s (.store 20 (.t 13) (.t 38)), none⟩,
  mv_ 14 39] [3, 6, 7, 8, 9, 10, 11, 12, 13, 14])
 Jh
def Jo : Af := .seq (.ops [mv_ 31 5,
  mv_ 32 0,
  so_ 33 (.call 10 [.t 31, .t 32]),
  mv_ 11 33] [0, 3, 6, 7, 8, 9, 10, 11])
 IZ
def IA : Af := .seq (.pops [mv_ 26 5,
  po_ 27 (.load true 20 (.t 3)),
  so_ 28 (.call 41 [.t 26, .t 27]),
  mv_ 25 28,
  po_ 29 (.ext 0 (.t 25)),
  po_ 30 (.ext 1 (.t 25)),
  mv_ 9 29,
  mv_ 10 30] [0, 3, 5, 6, 7, 8, 9, 10])
 Jo
def IY : Af := .seq (.pops [mv_ 20 5,
  so_ 21 (.call 40 [.t 20]),
  mv_ 19 21,
  po_ 22 (.ext 0 (.t 19)),
  po_ 23 (.ext 1 (.t 19)),
  po_ 24 (.ext 2 (.t 19)),
  so_ 7 (.alloc (.arr 20 1 [.val (.int .u8 ((0 : Nat) : Int)), .val (.int .u8 ((0 : Nat) : Int)), .val (.int .u8 ((0 : Nat) : Int)), .val (.int .u8 ((0 : Nat) : Int)), .val (.int .u8 ((0 : Nat) : Int)), .val (.int .u8 ((0 : Nat) : Int)), .val (.int .u8 ((0 : Nat) : Int)), .val (.int .u8 ((0 : Nat) : Int)), .val (.int .u8 ((0 : Nat) : Int)), .val (.int .u8 ((0 : Nat) : Int)), .val (.int .u8 ((0 : Nat) : Int)), .val (.int .u8 ((0 : Nat) : Int)), .val (.int .u8 ((0 : Nat) : Int)), .val (.int .u8 ((0 : Nat) : Int)), .val (.int .u8 ((0 : Nat) : Int)), .val (.int .u8 ((0 : Nat) : Int)), .val (.int .u8 ((0 : Nat) : Int)), .val (.int .u8 ((0 : Nat) : Int)), .val (.int .u8 ((0 : Nat) : Int)), .val (.int .u8 ((0 : Nat) : Int))])),
  mv_ 6 22,
  ⟨none, .s (.store 20 (.t 7) (.t 23)), none⟩,
  mv_ 8 24] [0, 3, 5, 6, 7, 8])
 IA
def Iq : Af := .seq (.ops [mv_ 17 0,
  so_ 18 (.call 8 [.t 17]),
  mv_ 5 18] [0, 3, 5])
 IY
def Oo : Af := .seq (.ops [so_ 3 (.box (.t 1)),
  po_ 4 (.mov (.c (.bool false)))] [0, 3])
 Iq
def Pz : List VR := [.tmp 4]
theorem VK : Tryd.f18.body.bind (trC Tryd.prog Tryd.f18.ntmps) = some (er Oo) := by kernel_rfl
theorem Wl : trR Tryd.prog Tryd.f18.results.toList = some Pz := by kernel_rfl
def Qo := Ad J3.eq_1
def DW := Ad Ju.eq_1
def PW := Ad JB.eq_1
def DY := Ad KA.eq_1
def DX := Ad JX.eq_1
def Dj := Ad JL.eq_1
def H5 := Ad JK.eq_1
def P5 := Ad JC.eq_1
def Hz := Ad Jt.eq_1
def Gi := Ad Jf.eq_1
def Gt := Ad Ja.eq_1
def DL := Ad Jh.eq_1
def DK := Ad IZ.eq_1
def DF := Ad Jo.eq_1
def Gx := Ad IA.eq_1
def Oa := Ad IY.eq_1
def NZ := Ad Iq.eq_1
def Ue := Ad Oo.eq_1
theorem FY {K : TV → Prop} {e : Env} {H : List Ob} : res Pz e H K = res [.tmp 4] e H K := Aa rfl
def U2 := Ia 118 Tryd.func18 VK Wl rfl

def H6 : Af := .seq (.block 1 (.seq (.draw 31 [mv_ 17 0,
  mv_ 18 5,
  po_ 19 (.idxA 22 (.t 17) (.t 18)),
  po_ 20 (.fieldA 0 0 (.t 19)),
  po_ 21 (.load true 20 (.t 20)),
  mv_ 22 1,
  mv_ 23 5,
  po_ 24 (.idxA 22 (.t 22) (.t 23)),
  po_ 25 (.fieldA 0 0 (.t 24)),
  po_ 26 (.load true 20 (.t 25)),
  po_ 27 (.gen (.eqA 20 true) [.t 21, .t 26]),
  mv_ 28 27,
  ⟨some 29, .p (.mov (.t 0)), some ⟨28, false⟩⟩,
  ⟨some 30, .p (.mov (.t 5)), some ⟨28, false⟩⟩,
  ⟨some 31, .p (.idxA 22 (.t 29) (.t 30)), some ⟨28, false⟩⟩,
  ⟨some 32, .p (.fieldA 1 20 (.t 31)), some ⟨28, false⟩⟩,
  ⟨some 33, .p (.load false 1 (.t 32)), some ⟨28, false⟩⟩,
  ⟨some 34, .p (.mov (.t 1)), some ⟨28, false⟩⟩,
  ⟨some 35, .p (.mov (.t 5)), some ⟨28, false⟩⟩,
  ⟨some 36, .p (.idxA 22 (.t 34) (.t 35)), some ⟨28, false⟩⟩,
  ⟨some 37, .p (.fieldA 1 20 (.t 36)), some ⟨28, false⟩⟩,
  ⟨some 38, .p (.load false 1 (.t 37)), some ⟨28, false⟩⟩,
  ⟨some 39, .p (.bin 3 .neq (.t 33) (.t 38)), some ⟨28, false⟩⟩,
  po_ 40 (.pick (.t 28) (.c (.bool true)) (.t 39)),
  mv_ 41 40,
  ⟨some 42, .p (.mov (.t 0)), some ⟨41, false⟩⟩,
  ⟨some 43, .p (.mov (.t 5)), some ⟨41, false⟩⟩,
  ⟨some 44, .p (.idxA 22 (.t 42) (.t 43)), some ⟨41, false⟩⟩,
  ⟨some 45, .p (.fieldA 2 21 (.t 44)), some ⟨41, false⟩⟩,
  ⟨some 46, .p (.load false 1 (.t 45)), some ⟨41, false⟩⟩,
  ⟨some 47, .p (.mov (.t 1)), some ⟨41, false⟩⟩,
  ⟨some 48, .p (.mov (.t 5)), some ⟨41, false⟩⟩,
  ⟨some 49, .p (.idxA 22 (.t 47) (.t 48)), some ⟨41, false⟩⟩,
  ⟨some 50, .p (.fieldA 2 21 (.t 49)), some ⟨41, false⟩⟩,
  ⟨some 51, .p (.load false 1 (.t 50)), some ⟨41, false⟩⟩,
  ⟨some 52, .p (.bin 40 .neq (.t 46) (.t 51)), some ⟨41, false⟩⟩,
  po_ 53 (.pick (.t 41) (.c (.bool true)) (.t 52))] [0, 1, 5, 53])
 (.cond (.t 53)
 (.seq (.ops [po_ 4 (.mov (.c (.bool false)))] [4])
  (.ret))
 (.skip))))
 (.ops [mv_ 15 5,
  po_ 16 (.bin 3 .add (.t 15) (ci_ 1)),
  mv_ 5 16] [0, 1, 5])
def Hy : Af := .seq (.seq (.ops [mv_ 11 5,
  mv_ 12 0,
  po_ 13 (.lenV (.t 12)),
  po_ 14 (.bin 3 .lss (.t 11) (.t 13))] [0, 1, 5, 14])
 (.cond (.t 14)
 (.skip)
 (.exit 0)))
 H6
def G7 : Af := .block 0 (.loop [0, 1, 5] Hy)
def He : Af := .seq (.ops [po_ 4 (.mov (.c (.bool true)))] [4])
 (.ret)
def G9 : Af := .seq (.seq (.ops [po_ 5 (.mov (ci_ 0))] [0, 1, 5])
 G7)
 He
def G6 : Af := .seq (.seq (.ops [mv_ 6 0,
  po_ 7 (.lenV (.t 6)),
  mv_ 8 1,
  po_ 9 (.lenV (.t 8)),
  po_ 10 (.bin 3 .neq (.t 7) (.t 9))] [0, 1, 10])
 (.cond (.t 10)
 (.seq (.ops [po_ 4 (.mov (.c (.bool false)))] [4])
  (.ret))
 (.skip)))
 G9
def LD : Af := .seq (.ops [po_ 4 (.mov (.c (.bool false)))] [0, 1])
 G6
def KX : List VR := [.tmp 4]
theorem Uj : Tryd.f43.body.bind (trC Tryd.prog Tryd.f43.ntmps) = some (er LD) := by kernel_rfl
theorem Uk : trR Tryd.prog Tryd.f43.results.toList = some KX := by kernel_rfl
def NS := Ad H6.eq_1
def NP := Ad Hy.eq_1
def NK := Ad G7.eq_1
def NR := Ad He.eq_1
def NV := Ad G9.eq_1
def NM := Ad G6.eq_1
def Q7 := Ad LD.eq_1
theorem QP {K : TV → Prop} {e : Env} {H : List Ob} : res KX e H K = res [.tmp 4] e H K := Aa rfl
def F6 := (And.intro (And.intro (And.intro @NS @NP) (And.intro @NK @NR)) (And.intro (And.intro @NV @NM) (And.intro @Q7 @QP)))
def Sz := Ia 54 Tryd.func43 Uj Uk rfl

def GM : Af := .seq (.block 1 (.seq (.draw 4 [mv_ 43 9,
  mv_ 44 12,
  po_ 45 (.idxA 22 (.t 43) (.t 44)),
  po_ 46 (.load true 22 (.t 45)),
  mv_ 47 0,
  mv_ 48 12,
  po_ 49 (.idxA 22 (.t 47) (.t 48)),
  po_ 50 (.load true 22 (.t 49)),
  po_ 51 (.gen (.eqR [.b 20, .i, .i] true) [.t 46, .t 50])] [0, 2, 5, 7, 9, 10, 11, 12, 51])
 (.cond (.t 51)
 (.seq (.ops [po_ 8 (.mov (.c (.bool false)))] [8])
  (.ret))
 (.skip))))
 (.ops [mv_ 41 12,
  po_ 42 (.bin 3 .add (.t 41) (ci_ 1)),
  mv_ 12 42] [0, 2, 5, 7, 9, 10, 11, 12])
def GG : Af := .seq (.seq (.ops [mv_ 37 12,
  mv_ 38 0,
  po_ 39 (.lenV (.t 38)),
  po_ 40 (.bin 3 .lss (.t 37) (.t 39))] [0, 2, 5, 7, 9, 10, 11, 12, 40])
 (.cond (.t 40)
 (.skip)
 (.exit 0)))
 GM
def GL : Af := .block 0 (.loop [0, 2, 5, 7, 9, 10, 11, 12] GG)
def Gv : Af := .seq (.ops [mv_ 76 17,
  mv_ 77 76,
  ⟨some 78, .p (.mov (.t 10)), some ⟨77, true⟩⟩,
  ⟨some 79, .p (.lenV (.t 78)), some ⟨77, true⟩⟩,
  ⟨some 80, .p (.bin 3 .eql (.t 79) (ci_ 0)), some ⟨77, true⟩⟩,
  po_ 81 (.pick (.t 77) (.t 80) (.c (.bool false))),
  mv_ 8 81] [8])
 (.ret)
def Gj : Af := .seq (.seq (.ops [mv_ 85 19,
  mv_ 86 0,
  po_ 87 (.lenV (.t 86)),
  po_ 88 (.bin 3 .lss (.t 85) (.t 87)),
  mv_ 89 88,
  ⟨some 90, .p (.mov (.t 18)), some ⟨89, true⟩⟩,
  po_ 91 (.pick (.t 89) (.t 90) (.c (.bool false)))] [0, 10, 17, 18, 19, 91])
 (.cond (.t 91)
 (.skip)
 (.exit 2)))
 (.seq (.block 3 (.pops [mv_ 94 10,
  mv_ 95 0,
  mv_ 96 19,
  po_ 97 (.idxA 22 (.t 95) (.t 96)),
  po_ 98 (.fieldA 0 0 (.t 97)),
  po_ 99 (.load true 20 (.t 98)),
  so_ 100 (.call 18 [.t 94, .t 99]),
  mv_ 18 100] [0, 10, 17, 18, 19]))
 (.ops [mv_ 92 19,
  po_ 93 (.bin 3 .add (.t 92) (ci_ 1)),
  mv_ 19 93] [0, 10, 17, 18, 19]))
def Gw : Af := .block 2 (.loop [0, 10, 17, 18, 19] Gj)
def Gz : Af := .seq (.ops [mv_ 101 17,
  mv_ 102 101,
  ⟨some 103, .p (.mov (.t 18)), some ⟨102, true⟩⟩,
  po_ 104 (.pick (.t 102) (.t 103) (.c (.bool false))),
  mv_ 8 104] [8])
 (.ret)
def GU : Af := .seq (.seq (.ops [po_ 19 (.mov (ci_ 0))] [0, 10, 17, 18, 19])
 Gw)
 Gz
def Gl : Af := .seq (.pops [mv_ 82 10,
  po_ 83 (.load true 20 (.t 7)),
  so_ 84 (.call 18 [.t 82, .t 83]),
  mv_ 18 84] [0, 10, 17, 18])
 GU
def FN : Af := .seq (.seq (.ops [mv_ 74 15,
  po_ 75 (.bin 3 .neq (.t 74) (ci_ 0))] [0, 7, 10, 17, 75])
 (.cond (.t 75)
 Gv
 (.skip)))
 Gl
def FD : Af := .seq (.pops [mv_ 71 2,
  po_ 72 (.load true 20 (.t 7)),
  so_ 73 (.call 18 [.t 71, .t 72]),
  mv_ 17 73] [0, 7, 10, 15, 17])
 FN
def FQ : Af := .seq (.seq (.ops [mv_ 63 16,
  po_ 64 (.un .not (.t 63)),
  mv_ 65 64,
  ⟨some 66, .p (.mov (.t 11)), some ⟨65, false⟩⟩,
  ⟨some 67, .s (.call 13 [.t 66]), some ⟨65, false⟩⟩,
  ⟨some 68, .p (.mov (.t 15)), some ⟨65, false⟩⟩,
  ⟨some 69, .p (.bin 3 .neq (.t 67) (.t 68)), some ⟨65, false⟩⟩,
  po_ 70 (.pick (.t 65) (.c (.bool true)) (.t 69))] [0, 2, 7, 10, 15, 70])
 (.cond (.t 70)
 (.seq (.ops [po_ 8 (.mov (.c (.bool false)))] [8])
  (.ret))
 (.skip)))
 FD
def FC : Af := .seq (.ops [mv_ 60 10,
  mv_ 61 14,
  so_ 62 (.call 12 [.t 60, .t 61]),
  mv_ 16 62] [0, 2, 7, 10, 11, 15, 16])
 FQ
def FI : Af := .seq (.ops [mv_ 55 13,
  po_ 56 (.load true 20 (.t 5)),
  so_ 57 (.call 17 [.t 55, .t 56]),
  mv_ 54 57,
  po_ 58 (.ext 0 (.t 54)),
  po_ 59 (.ext 1 (.t 54)),
  mv_ 14 58,
  mv_ 15 59] [0, 2, 7, 10, 11, 14, 15])
 FC
def FP : Af := .seq (.ops [mv_ 52 0,
  so_ 53 (.call 16 [.t 52]),
  mv_ 13 53] [0, 2, 5, 7, 10, 11, 13])
 FI
def FM : Af := .seq (.seq (.ops [po_ 12 (.mov (ci_ 0))] [0, 2, 5, 7, 9, 10, 11, 12])
 GL)
 FP
def FH : Af := .own 9 22 (.seq (.ops [mv_ 32 9,
  po_ 33 (.load true 20 (.t 5)),
  so_ 34 (.call 15 [.t 32, .t 33]),
  mv_ 31 34,
  po_ 35 (.ext 0 (.t 31)),
  po_ 36 (.ext 1 (.t 31)),
  mv_ 10 35,
  mv_ 11 36] [0, 2, 5, 7, 9, 10, 11])
 FM)
def FB : Af := .seq (.ops [mv_ 28 9,
  mv_ 29 0,
  so_ 30 (.app 22 40 42 (.t 28) (.t 29)),
  mv_ 9 30] [0, 2, 5, 7, 9])
 FH
def FK : Af := .seq (.ops [po_ 9 (.mov (.c (.slice none 0 0)))] [0, 2, 5, 7, 9])
 FB
def FO : Af := .seq (.seq (.ops [mv_ 20 0,
  po_ 21 (.lenV (.t 20)),
  po_ 22 (.bin 3 .gtr (.t 21) (ci_ 200)),
  mv_ 23 22,
  ⟨some 24, .p (.mov (.t 2)), some ⟨23, false⟩⟩,
  ⟨some 25, .p (.lenV (.t 24)), some ⟨23, false⟩⟩,
  ⟨some 26, .p (.bin 3 .gtr (.t 25) (ci_ 9000)), some ⟨23, false⟩⟩,
  po_ 27 (.pick (.t 23) (.c (.bool true)) (.t 26))] [0, 2, 5, 7, 27])
 (.cond (.t 27)
 (.seq (.ops [po_ 8 (.mov (.c (.bool true)))] [8])
  (.ret))
 (.skip)))
 FK
def J6 : Af := .seq (.ops [so_ 5 (.box (.t 1)),
  so_ 7 (.box (.t 3)),
  po_ 8 (.mov (.c (.bool false)))] [0, 2, 5, 7])
 FO
def JY : List VR := [.tmp 8]
theorem RU : Tryd.f4.body.bind (trC Tryd.prog Tryd.f4.ntmps) = some (er J6) := by kernel_rfl
theorem SL : trR Tryd.prog Tryd.f4.results.toList = some JY := by kernel_rfl
def Fj := Ad GM.eq_1
def Ce := Ad GG.eq_1
def Fp := Ad GL.eq_1
def MM := Ad Gv.eq_1
def E8 := Ad Gj.eq_1
def MH := Ad Gw.eq_1
def MN := Ad Gz.eq_1
def MP := Ad GU.eq_1
def Nb := Ad Gl.eq_1
def EP := Ad FN.eq_1
def EJ := Ad FD.eq_1
def EK := Ad FQ.eq_1
def EO := Ad FC.eq_1
def ES := Ad FI.eq_1
def EG := Ad FP.eq_1
def ET := Ad FM.eq_1
def LX := Ad FH.eq_1
def Lj := Ad FB.eq_1
def KY := Ad FK.eq_1
def LW := Ad FO.eq_1
def Qm := Ad J6.eq_1
theorem BH {K : TV → Prop} {e : Env} {H : List Ob} : res JY e H K = res [.tmp 8] e H K := Aa rfl
def Rn := Ia 105 Tryd.func4 RU SL rfl

end Go.Proofs.YtmlompedpahkjaaDoor


namespace Go.Proofs.YtmlompedpahkjaaDoor
variable [BA]
set_option linter.unusedSectionVars false
set_option linter.unusedVariables false
set_option linter.defProp false
set_option maxRecDepth 100000

def XC : Af := .seq (.ops [po_ 2 (.mov (ci_ 0))] [0])
 (.seq (.ops [so_ 3 (.alloc (.val (.int .i64 ((0 : Nat) : Int))))] [0, 3])
 (.seq (.block 0 (.seq (.ops [mv_ 5 0,
  po_ 6 (.eqN 1 (.t 5) (.c .nilIface) false),
  mv_ 4 6] [0, 3, 4])
 (.cond (.t 4)
 (.seq (.ops [po_ 2 (.mov (ci_ 0))] [2])
  (.ret))
 (.seq (.ops [mv_ 8 0,
   po_ 9 (.iface 69 (.t 3)),
   so_ 10 (.call 29 [.t 8, .t 9]),
   mv_ 7 10] [3, 7])
  (.cond (.t 7)
  (.seq (.ops [po_ 11 (.load false 1 (.t 3)),
    mv_ 2 11] [2])
   (.ret))
  (.skip))))))
 (.seq (.ops [po_ 2 (.mov (.c (.int .i64 (-1))))] [2])
 (.ret))))
def Xt : List VR := [.tmp 2]
theorem Aco : Tryd.f13.body.bind (trC Tryd.prog Tryd.f13.ntmps) = some (er XC) := by kernel_rfl
theorem Ab0 : trR Tryd.prog Tryd.f13.results.toList = some Xt := by kernel_rfl
def Zf := Ad XC.eq_1
theorem Zz {K : TV → Prop} {e : Env} {H : List Ob} : res Xt e H K = res [.tmp 2] e H K := Aa rfl
def TF := (And.intro @Zf @Zz)
def Wi := Ia 12 Tryd.func13 Aco Ab0 rfl

def OX : Af := .seq (.ops [mv_ 13 4,
  mv_ 14 3,
  po_ 15 (.idxA 1 (.t 13) (.t 14)),
  ⟨none, .s (.store 1 (.t 15) (.c (.int .u8 ((71 : Nat) : Int)))), none⟩] [3, 4])
 (.seq (.ops [mv_ 16 4,
  mv_ 17 3,
  po_ 18 (.bin 3 .add (.t 17) (ci_ 1)),
  po_ 19 (.idxA 1 (.t 16) (.t 18)),
  ⟨none, .s (.store 1 (.t 19) (.c (.int .u8 ((72 : Nat) : Int)))), none⟩] [3, 4])
 (.seq (.ops [mv_ 20 4,
  mv_ 21 3,
  po_ 22 (.slV 1 (.t 20) none (some (.t 21))),
  mv_ 2 22] [2])
 (.ret)))
def Pi : Af := .seq (.ops [mv_ 10 4,
  mv_ 11 0,
  so_ 12 (.copy 1 (.t 10) (.t 11))] [3, 4])
 OX
def Oi : Af := .seq (.ops [mv_ 7 3,
  po_ 8 (.bin 3 .add (.t 7) (ci_ 2)),
  so_ 9 (.mks 1 1 (.val (.int .u8 ((0 : Nat) : Int))) (.t 8) (.t 8)),
  mv_ 4 9] [0, 3, 4])
 Pi
def OJ : Af := .seq (.ops [mv_ 5 0,
  po_ 6 (.lenV (.t 5)),
  mv_ 3 6] [0, 3])
 Oi
def Uy : Af := .seq (.ops [po_ 2 (.mov (.c (.slice none 0 0)))] [0])
 OJ
def Uz : List VR := [.tmp 2]
theorem Zo : Tryd.f8.body.bind (trC Tryd.prog Tryd.f8.ntmps) = some (er Uy) := by kernel_rfl
theorem ZH : trR Tryd.prog Tryd.f8.results.toList = some Uz := by kernel_rfl
def TP := Ad OX.eq_1
def Ul := Ad Pi.eq_1
def Ud := Ad Oi.eq_1
def TI := Ad OJ.eq_1
def Wv := Ad Uy.eq_1
theorem WV {K : TV → Prop} {e : Env} {H : List Ob} : res Uz e H K = res [.tmp 2] e H K := Aa rfl
def Y1 := (And.intro (And.intro (And.intro @TP @Ul) (And.intro @Ud @TI)) (And.intro @Wv @WV))
def Yr := Ia 23 Tryd.func8 Zo ZH rfl

def Pv : Af := .seq (.seq (.ops [mv_ 36 8,
  mv_ 37 6,
  po_ 38 (.lenV (.t 37)),
  po_ 39 (.bin 3 .lss (.t 36) (.t 38))] [6, 7, 8, 39])
 (.cond (.t 39)
 (.skip)
 (.exit 0)))
 (.seq (.block 1 (.ops [mv_ 42 6,
  mv_ 43 8,
  mv_ 44 6,
  mv_ 45 8,
  po_ 46 (.idxA 1 (.t 44) (.t 45)),
  po_ 47 (.load false 1 (.t 46)),
  po_ 48 (.bin 5 .xor (.t 47) (.c (.int .u8 ((85 : Nat) : Int)))),
  po_ 49 (.idxA 1 (.t 42) (.t 43)),
  ⟨none, .s (.store 1 (.t 49) (.t 48)), none⟩] [6, 7, 8]))
 (.ops [mv_ 40 8,
  po_ 41 (.bin 3 .add (.t 40) (ci_ 1)),
  mv_ 8 41] [6, 7, 8]))
def Ox : Af := .block 0 (.loop [6, 7, 8] Pv)
def Oh : Af := .seq (.ops [mv_ 50 7,
  mv_ 4 50] [4])
 (.ret)
def N8 : Af := .seq (.seq (.ops [po_ 8 (.mov (ci_ 0))] [6, 7, 8])
 Ox)
 Oh
def OA : Af := .seq (.ops [mv_ 20 7,
  mv_ 21 20,
  ⟨some 22, .p (.mov (.t 6)), some ⟨21, true⟩⟩,
  ⟨some 23, .p (.mov (.t 5)), some ⟨21, true⟩⟩,
  ⟨some 24, .p (.idxA 1 (.t 22) (.t 23)), some ⟨21, true⟩⟩,
  ⟨some 25, .p (.load false 1 (.t 24)), some ⟨21, true⟩⟩,
  ⟨some 26, .p (.bin 5 .eql (.t 25) (.c (.int .u8 ((71 : Nat) : Int)))), some ⟨21, true⟩⟩,
  po_ 27 (.pick (.t 21) (.t 26) (.c (.bool false))),
  mv_ 28 27,
  ⟨some 29, .p (.mov (.t 6)), some ⟨28, true⟩⟩,
  ⟨some 30, .p (.mov (.t 5)), some ⟨28, true⟩⟩,
  ⟨some 31, .p (.bin 3 .add (.t 30) (ci_ 1)), some ⟨28, true⟩⟩,
  ⟨some 32, .p (.idxA 1 (.t 29) (.t 31)), some ⟨28, true⟩⟩,
  ⟨some 33, .p (.load false 1 (.t 32)), some ⟨28, true⟩⟩,
  ⟨some 34, .p (.bin 5 .eql (.t 33) (.c (.int .u8 ((72 : Nat) : Int)))), some ⟨28, true⟩⟩,
  po_ 35 (.pick (.t 28) (.t 34) (.c (.bool false))),
  mv_ 7 35] [6, 7])
 N8
def Oz : Af := .seq (.ops [mv_ 15 6,
  mv_ 16 5,
  po_ 17 (.slV 1 (.t 15) none (some (.t 16))),
  mv_ 18 1,
  so_ 19 (.call 12 [.t 17, .t 18]),
  mv_ 7 19] [5, 6, 7])
 OA
def OZ : Af := .seq (.ops [mv_ 11 0,
  mv_ 12 5,
  po_ 13 (.bin 3 .add (.t 12) (ci_ 2)),
  po_ 14 (.slV 1 (.t 11) none (some (.t 13))),
  mv_ 6 14] [1, 5, 6])
 Oz
def O5 : Af := .seq (.ops [mv_ 9 1,
  po_ 10 (.lenV (.t 9)),
  mv_ 5 10] [0, 1, 5])
 OZ
def Ux : Af := .seq (.ops [po_ 4 (.mov (.c (.bool false)))] [0, 1])
 O5
def Ut : List VR := [.tmp 4]
theorem ZE : Tryd.f10.body.bind (trC Tryd.prog Tryd.f10.ntmps) = some (er Ux) := by kernel_rfl
theorem ZG : trR Tryd.prog Tryd.f10.results.toList = some Ut := by kernel_rfl
def TJ := Ad Pv.eq_1
def TK := Ad Ox.eq_1
def TC := Ad Oh.eq_1
def Ug := Ad N8.eq_1
def TY := Ad OA.eq_1
def TR := Ad Oz.eq_1
def Ub := Ad OZ.eq_1
def TN := Ad O5.eq_1
def WP := Ad Ux.eq_1
theorem WT {K : TV → Prop} {e : Env} {H : List Ob} : res Ut e H K = res [.tmp 4] e H K := Aa rfl
def KH := (And.intro (And.intro (And.intro (And.intro @TJ @TK) (And.intro @TC @Ug)) (And.intro (And.intro @TY @TR) (And.intro @Ub @TN))) (And.intro @WP @WT))
def X3 := Ia 51 Tryd.func10 ZE ZG rfl

def Qx : Af := .seq (.block 1 (.seq (.draw 4 [mv_ 17 0,
  mv_ 18 5,
  po_ 19 (.idxA 1 (.t 17) (.t 18)),
  po_ 20 (.load false 1 (.t 19)),
  mv_ 21 1,
  mv_ 22 5,
  po_ 23 (.idxA 1 (.t 21) (.t 22)),
  po_ 24 (.load false 1 (.t 23)),
  po_ 25 (.bin 5 .neq (.t 20) (.t 24))] [0, 1, 5, 25])
 (.cond (.t 25)
 (.seq (.ops [po_ 4 (.mov (.c (.bool false)))] [4])
  (.ret))
 (.skip))))
 (.ops [mv_ 15 5,
  po_ 16 (.bin 3 .add (.t 15) (ci_ 1)),
  mv_ 5 16] [0, 1, 5])
def Qr : Af := .seq (.seq (.ops [mv_ 11 5,
  mv_ 12 0,
  po_ 13 (.lenV (.t 12)),
  po_ 14 (.bin 3 .lss (.t 11) (.t 13))] [0, 1, 5, 14])
 (.cond (.t 14)
 (.skip)
 (.exit 0)))
 Qx
def Qq : Af := .block 0 (.loop [0, 1, 5] Qr)
def QH : Af := .seq (.ops [po_ 4 (.mov (.c (.bool true)))] [4])
 (.ret)
def QD : Af := .seq (.seq (.ops [po_ 5 (.mov (ci_ 0))] [0, 1, 5])
 Qq)
 QH
def Qw : Af := .seq (.seq (.ops [mv_ 6 0,
  po_ 7 (.lenV (.t 6)),
  mv_ 8 1,
  po_ 9 (.lenV (.t 8)),
  po_ 10 (.bin 3 .neq (.t 7) (.t 9))] [0, 1, 10])
 (.cond (.t 10)
 (.seq (.ops [po_ 4 (.mov (.c (.bool false)))] [4])
  (.ret))
 (.skip)))
 QD
def VE : Af := .seq (.ops [po_ 4 (.mov (.c (.bool false)))] [0, 1])
 Qw
def VS : List VR := [.tmp 4]
theorem Aaf : Tryd.f12.body.bind (trC Tryd.prog Tryd.f12.ntmps) = some (er VE) := by kernel_rfl
theorem AaE : trR Tryd.prog Tryd.f12.results.toList = some VS := by kernel_rfl
def UN := Ad Qx.eq_1
def UO := Ad Qr.eq_1
def U0 := Ad Qq.eq_1
def U1 := Ad QH.eq_1
def UL := Ad QD.eq_1
def UR := Ad Qw.eq_1
def YC := Ad VE.eq_1
theorem Yi {K : TV → Prop} {e : Env} {H : List Ob} : res VS e H K = res [.tmp 4] e H K := Aa rfl
def Iu := (And.intro (And.intro (And.intro @UN @UO) (And.intro @U0 @U1)) (And.intro (And.intro @UL @UR) (And.intro @YC @Yi)))
def Zy := Ia 26 Tryd.func12 Aaf AaE rfl

end Go.Proofs.YtmlompedpahkjaaDoor


namespace Go.Proofs.YtmlompedpahkjaaDoor
open Go.RowKit
variable [BA]
set_option linter.unusedSectionVars false
set_option linter.unusedVariables false
set_option linter.unusedSimpArgs false
set_option autoImplicit false

noncomputable def Tc (l : List Pl) : List Pl := l.mergeSort fun x y => !@decide (ltB y.id x.id) (Classical.propDecidable _)
theorem Su {l : List Pl} (h : Fit l) : SP (Tc l) ∧ (Tc l).Perm l := by
 have hp : (Tc l).Perm l := List.mergeSort_perm _ _
 refine ⟨SP.of ?_ (h.perm hp.symm).ids, hp⟩
 have h := List.pairwise_mergeSort (le := fun x y : Pl => !@decide (ltB y.id x.id) (Classical.propDecidable _)) (fun a b c h1 h2 => by
  simp only [Bool.not_eq_true', decide_eq_false_iff_not] at *
  intro h3
  by_cases h4 : ltB a.id b.id
  ·exact h2 (Fa h3 h4)
  ·have e := We h1 h4
   rw [e] at h2; exact h2 h3) (fun a b => by
  by_cases h4 : ltB b.id a.id
  ·have : ¬ ltB a.id b.id := fun h => Ig _ (Fa h h4)
   simp [h4, this]
  ·simp [h4]) l
 exact h.imp fun h => by simpa using h
noncomputable def wrF (sha : List UInt8 → List UInt8) (l : List Pl) (sum : List UInt8) : Option (List UInt8) := @ite _ (Fit l) (Classical.propDecidable _) (some (FT (Tc l) sum ++ sha (FT (Tc l) sum))) none
theorem Wr.is {sha : List UInt8 → List UInt8} {l : List Pl} {sum : List UInt8} {r : Option (List UInt8)} (h : Wr l sum sha r) : r = wrF sha l sum := by
 refine h.uniq ⟨fun c => ⟨Tc l, (Su c).1, (Su c).2, ?_⟩, fun c => ?_⟩
 ·unfold wrF; rw [if_pos c]
 ·unfold wrF; rw [if_neg c]
/-- The pack's sum. -/
def Ic (b : List UInt8) : List UInt8 := (b.drop (b.length - 40)).take 20
/-- It is an index. -/
structure Nc (sha : List UInt8 → List UInt8) (b : List UInt8) : Prop where
 len : 1072 ≤ b.length
 mod : (b.length - 1072) % 28 = 0
 is : wrF sha (Ha b) (Ic b) = some b
theorem PN (b : List UInt8) : (Ha b).length = (b.length - 1072) / 28 := by unfold Ha; simp
theorem AjN {b : List UInt8} {i : Nat} (h : i < (b.length - 1072) / 28) : (Ha b)[i]? = some (Yb b ((b.length - 1072) / 28) i) := by
 unfold Ha; rw [List.getElem?_map, List.getElem?_range h]; rfl
theorem AkZ {b : List UInt8} (h1 : 1072 ≤ b.length) (hf : Fit (Ha b)) : ∀ p ∈ Ha b, AoD p := by
 intro p hp
 refine ⟨?_, hf.off p hp, ?_⟩
 all_goals
  unfold Ha at hp
  obtain ⟨i, hi, rfl⟩ := List.mem_map.1 hp
  rw [List.mem_range] at hi
  unfold Yb
 ·simp only [List.length_take, List.length_drop]; omega
 ·exact Zp _
theorem X7 {b : List UInt8} (h1 : 1072 ≤ b.length) : ∀ p ∈ Ha b, p.id.length = 20 ∧ p.crc < 4294967296 ∧ 0 ≤ p.off ∧ p.off < 4294967296 := by
 intro p hp
 unfold Ha at hp
 obtain ⟨i, hi, rfl⟩ := List.mem_map.1 hp
 rw [List.mem_range] at hi
 unfold Yb
 refine ⟨by simp only [List.length_take, List.length_drop]; omega, Zp _, ?_, ?_⟩
 ·simp only; omega
 ·simp only; have := Zp (b.drop (1032 + 24 * ((b.length - 1072) / 28) + 4 * i)); omega
theorem V6 {b : List UInt8} (h1 : 1072 ≤ b.length) : (Ic b).length = 20 := by unfold Ic; simp only [List.length_take, List.length_drop]; omega
/-- What is read is sorted. -/
theorem Nc.sorted {sha : List UInt8 → List UInt8} (hs : ∀ x, (sha x).length = 20) {b : List UInt8} (h : Nc sha b) : SP (Ha b) ∧ Fit (Ha b) := by
 have h3 := h.is
 unfold wrF at h3
 by_cases c : Fit (Ha b)
 ·rw [if_pos c] at h3
  have e := (Option.some.inj h3).symm
  have hp := Su c
  have hok := AkZ h.len c
  have := Abb (s := Tc (Ha b)) (fun p q => hok p (hp.2.mem_iff.1 q)) (sum := Ic b) (V6 h.len) (hs (FT (Tc (Ha b)) (Ic b)))
  rw [← e] at this
  refine ⟨?_, c⟩
  rw [this]; exact hp.1
 ·rw [if_neg c] at h3; cases h3
/-- What is written is an index. -/
theorem Nc.written {sha : List UInt8 → List UInt8} (hs : ∀ x, (sha x).length = 20) {l : List Pl} (hl : ∀ p ∈ l, p.id.length = 20 ∧ p.crc < 4294967296) {sum b : List UInt8} (h20 : sum.length = 20) (h : wrF sha l sum = some b) : Nc sha b ∧ (Ha b).Perm l ∧ Ic b = sum := by
 unfold wrF at h
 by_cases c : Fit l
 ·rw [if_pos c] at h
  have e := Option.some.inj h
  have hp := Su c
  have hok : ∀ p ∈ Tc l, AoD p := fun p q => by
   have hm := hp.2.mem_iff.1 q
   exact ⟨(hl p hm).1, c.off p hm, (hl p hm).2⟩
  have h1 := Abb hok h20 (hs (FT (Tc l) sum))
  have h2 := Alq (fun p q => (hok p q).id) h20 (hs (FT (Tc l) sum))
  have hl2 := congrArg List.length e
  rw [List.length_append, XX (fun p q => (hok p q).id), h20, hs] at hl2
  rw [e] at h1
  have h2' : Ic b = sum := by unfold Ic; rw [← e]; exact h2
  refine ⟨⟨by omega, by rw [← hl2]; omega, ?_⟩, by rw [h1]; exact hp.2, h2'⟩
  have cs := c.perm hp.2.symm
  have hp2 := Su cs
  have e2 : Tc (Tc l) = Tc l := hp2.1.uniq hp.1 hp2.2 (List.Perm.refl _)
  unfold wrF
  rw [h1, h2', if_pos cs, e2, e]
 ·rw [if_neg c] at h; cases h
/-- Where an id stands. -/
theorem SP.find {l : List Pl} (h : SP l) {x : List UInt8} {i : Nat} (hi : i ≤ l.length) (h1 : ∀ (k : Nat) y, k < i → l[k]? = some y → ltB y.id x) (h2 : ∀ (k : Nat) y, i ≤ k → l[k]? = some y → ¬ ltB y.id x) : (∀ p, l[i]? = some p → p.id ≠ x) → ∀ p ∈ l, p.id ≠ x := by
 intro h3 p hp e
 obtain ⟨j, hj⟩ := List.getElem?_of_mem hp
 rcases Nat.lt_trichotomy j i with c | c | c
 ·have := h1 j p c hj
  rw [e] at this; exact Ig _ this
 ·subst c; exact h3 p hj e
 ·obtain ⟨hjl, rfl⟩ := List.getElem?_eq_some_iff.1 hj
  have hil : i < l.length := by omega
  have hlt := List.pairwise_iff_getElem.1 h i j hil hjl c
  have := h2 i l[i] (Nat.le_refl _) (List.getElem?_eq_getElem hil)
  rw [← e] at this; exact this hlt
theorem SP.one {l : List Pl} (h : SP l) {i j : Nat} {p q : Pl} (hi : l[i]? = some p) (hj : l[j]? = some q) (e : p.id = q.id) : i = j := by
 obtain ⟨hil, rfl⟩ := List.getElem?_eq_some_iff.1 hi
 obtain ⟨hjl, rfl⟩ := List.getElem?_eq_some_iff.1 hj
 rcases Nat.lt_trichotomy i j with c | c | c
 ·have := List.pairwise_iff_getElem.1 h i j hil hjl c
  rw [e] at this; exact absurd this (Ig _)
 ·exact c
 ·have := List.pairwise_iff_getElem.1 h j i hjl hil c
  rw [e] at this; exact absurd this (Ig _)
end Go.Proofs.YtmlompedpahkjaaDoor


namespace Go.Proofs.YtmlompedpahkjaaDoor
open Go.RowKit
variable [BA]
set_option linter.unusedSectionVars false
set_option linter.unusedVariables false
section
variable {t : TypeId} {a b : Nat} {k2 : IntKind}
theorem Vz {n : Nat} (h : n < 4294967296) : IntKind.u32.wrap (n : Int) = n := by rw [IntKind.wrap_u32']; omega
theorem Afm (h2 : b ≤ 32) : EF t .shr (.int .u32 (a : Int)) (.int k2 (b : Int)) = some (.int .u32 ((a / 2 ^ b : Nat) : Int)) := by
 have e : binOp .shr t (.int .u32 (a : Int)) (.int k2 (b : Int)) = pure (.int .u32 ((a / 2 ^ b : Nat) : Int)) := by
  show Op.shift .shr .u32 a k2 b = _
  unfold Op.shift
  rw [if_neg (by omega)]
  have hm : min ((b : Int)).toNat IntKind.u32.bits = b := by
   have : IntKind.u32.bits = 32 := rfl
   omega
  simp only [hm]
  rw [Int.fdiv_eq_ediv_of_nonneg _ (by exact Int.le_of_lt (Int.pow_pos (by omega)))]
  have e2 : (a : Int) / 2 ^ b = ((a / 2 ^ b : Nat) : Int) := by rw [Int.natCast_ediv, Int.natCast_pow]; rfl
  rw [e2]
 unfold EF; rw [e]; rfl
end
end Go.Proofs.YtmlompedpahkjaaDoor


namespace Go.Proofs.YtmlompedpahkjaaDoor
open Go.RowKit
variable [BA]
set_option linter.unusedSectionVars false
set_option linter.unusedSimpArgs false
set_option linter.unusedVariables false
set_option autoImplicit false

section
variable {t : TypeId} {a b : Nat} {k2 : IntKind}
end
theorem Aop {n : Nat} (h : n < 256) : TV.val (.int .u8 (n : Int)) = by8 (UInt8.ofNat n) := by
 show TV.val (.int .u8 (n : Int)) = TV.val (.int .u8 ((UInt8.ofNat n).toNat : Int))
 rw [UInt8.toNat_ofNat', Nat.mod_eq_of_lt (by omega)]
end Go.Proofs.YtmlompedpahkjaaDoor


namespace Go.Proofs.YtmlompedpahkjaaDoor
open Go.RowKit
variable [BA]
set_option linter.unusedSectionVars false
set_option linter.unusedVariables false
set_option linter.unusedSimpArgs false

theorem Abi {n : Nat} : TV.val (.int .u8 (IntKind.u8.wrap (n : Int))) = by8 (UInt8.ofNat n) := by
 have e : IntKind.u8.wrap (n : Int) = ((n % 256 : Nat) : Int) := by rw [IntKind.wrap_u8]; omega
 rw [e, Aop (Nat.mod_lt _ (by omega))]
 congr 1
 apply UInt8.toNat_inj.1
 simp
theorem U9 {α : Type} {z a b c d : α} : ((((List.replicate 4 z).set 0 a).set 1 b).set 2 c).set 3 d = [a, b, c, d] := by simp [List.replicate]
theorem YT {α : Type} {a b c d : α} : List.take 4 [a, b, c, d] = [a, b, c, d] := by simp
theorem AbJ {α : Type} {a b c d : α} : [a, b, c, d].length = 4 := by simp
theorem Afd {l : List UInt8} {n : Nat} : l.map by8 ++ [by8 (UInt8.ofNat (n / 16777216)), by8 (UInt8.ofNat (n / 65536)), by8 (UInt8.ofNat (n / 256)), by8 (UInt8.ofNat n)] = (l ++ be4 n).map by8 := by simp [be4]
/-- What becomes of a row to which bytes are appended. -/
structure AlR (H H' : List Ob) (id : Nat) (o : Ob) : Prop where
 at' : H'[id]? = some o
 low : ∀ i, i < H.length → i ≠ id → H'[i]? = H[i]?
 len : H.length ≤ H'.length
theorem Ao0 {l : List UInt8} {n : Nat} (hn : n < 4294967296) (hl : l.length ≤ 1000000) {id v cp N : Nat} {H : List Ob} (ho : H[id]? = some (.obj v (.arr N 1 (l.map by8)))) {K : TV → List Ob → Prop}
  (hK : ∀ H' v', AlR H H' id (.obj v' (.arr (l.length + 4) 1 ((l ++ be4 n).map by8))) → K (.os 1 id v' [] 0 (l.length + 4) (l.length + 4)) H') : Ap Tryd.prog 35 [.os 1 id v [] 0 l.length cp, .val (.int .u32 (n : Int))] H K := by
 refine Qa (by simp) ?_
 have hid : id < H.length := (List.getElem?_eq_some_iff.1 ho).1
 have htk : (l.map by8).take l.length = l.map by8 := by rw [List.take_of_length_le]; simp
 simp -dsimp (disch := first | assumption | omega | (simp only [Ac]; done) | (simp only [Ac]; omega)) only [↓Ah, Ae, Ai, Ag, eq_self, forall_const, Nat.reduceLT, Nat.reduceEqDiff, Nat.reduceSub, Nat.reduceMul, Nat.reduceMod, Nat.reduceDiv, Nat.reducePow, UInt8.reduceToNat, Int.reduceEq, Int.reduceLT, Int.reduceLE, ↓reduceIte, Nat.reduceAdd, Int.reduceToNat, reduceCtorEq, Nat.reduceLeDiff, ↓Q8, ho, Afm, Abi, htk, U9, YT, AbJ]
 refine hK _ _ ⟨?_, fun i hi hne => ?_, by simp⟩
 ·rw [List.getElem?_append_left (by simpa using hid), List.getElem?_set_self hid, ← Afd]
 ·rw [List.getElem?_append_left (by simpa using hi), List.getElem?_set_ne (Ne.symm hne)]
theorem AhV {l : List UInt8} {n : Nat} (hn : n < 4294967296) (hl : l.length ≤ 1000000) {id v cp N : Nat} {H : List Ob} (ho : H[id]? = some (.obj v (.arr N 1 (l.map by8)))) {K : TV → List Ob → Prop}
  (hK : ∀ H' v', AlR H H' id (.obj v' (.arr (l.length + 4) 1 ((l ++ be4 n).map by8))) → K (.os 1 id v' [] 0 (l.length + 4) (l.length + 4)) H') : Ap Tryd.prog 38 [.os 1 id v [] 0 l.length cp, .val (.int .u32 (n : Int))] H K := by
 refine AaT (by simp) ?_
 have hid : id < H.length := (List.getElem?_eq_some_iff.1 ho).1
 have htk : (l.map by8).take l.length = l.map by8 := by rw [List.take_of_length_le]; simp
 simp -dsimp (disch := first | assumption | omega | (simp only [Ac]; done) | (simp only [Ac]; omega)) only [↓Ah, Ae, Ai, Ag, eq_self, forall_const, Nat.reduceLT, Nat.reduceEqDiff, Nat.reduceSub, Nat.reduceMul, Nat.reduceMod, Nat.reduceDiv, Nat.reducePow, UInt8.reduceToNat, Int.reduceEq, Int.reduceLT, Int.reduceLE, ↓reduceIte, Nat.reduceAdd, Int.reduceToNat, reduceCtorEq, Nat.reduceLeDiff, ↓AbO, ho, Afm, Abi, htk, U9, YT, AbJ]
 refine hK _ _ ⟨?_, fun i hi hne => ?_, by simp⟩
 ·rw [List.getElem?_append_left (by simpa using hid), List.getElem?_set_self hid, ← Afd]
 ·rw [List.getElem?_append_left (by simpa using hi), List.getElem?_set_ne (Ne.symm hne)]
/-- Four bytes, the document's. -/
theorem Abr (l : List UInt8) (hl : 4 ≤ l.length) (hm : l.length ≤ 1000000) : D5 Tryd.prog 83 [slB l] (fun r => r = i64 (nm4 l : Int)) := by
 refine Ap.toPureV (WW (by simp) ?_)
 obtain ⟨a, b, c, d, r, rfl⟩ : ∃ a b c d r, l = a :: b :: c :: d :: r := by
  match l, hl with
  | a :: b :: c :: d :: r, _ => exact ⟨a, b, c, d, r, rfl⟩
 have h0 : (a :: b :: c :: d :: r)[0]? = some a := rfl
 have h1 : (a :: b :: c :: d :: r)[1]? = some b := rfl
 have h2 : (a :: b :: c :: d :: r)[2]? = some c := rfl
 have h3 : (a :: b :: c :: d :: r)[3]? = some d := rfl
 have g0 : (a :: b :: c :: d :: r).getD 0 0 = a := rfl
 have g1 : (a :: b :: c :: d :: r).getD 1 0 = b := rfl
 have g2 : (a :: b :: c :: d :: r).getD 2 0 = c := rfl
 have g3 : (a :: b :: c :: d :: r).getD 3 0 = d := rfl
 have hnm : nm4 (a :: b :: c :: d :: r) = a.toNat * 16777216 + b.toNat * 65536 + c.toNat * 256 + d.toNat := by unfold nm4; rw [g0, g1, g2, g3]
 have ha := a.toNat_lt; have hb := b.toNat_lt; have hc := c.toNat_lt; have hd := d.toNat_lt
 rw [hnm]
 generalize a :: b :: c :: d :: r = l at *
 simp -dsimp (disch := first | assumption | omega | (simp only [Ac]; done) | (simp only [Ac]; omega)) only [↓Ah, Ae, Ai, Ag, eq_self, forall_const, Nat.reduceLT, Nat.reduceEqDiff, Nat.reduceSub, Nat.reduceMul, Nat.reduceMod, Nat.reduceDiv, Nat.reducePow, UInt8.reduceToNat, Int.reduceEq, Int.reduceLT, Int.reduceLE, ↓reduceIte, Nat.reduceAdd, Int.reduceToNat, reduceCtorEq, Nat.reduceLeDiff, ↓XJ, h0, h1, h2, h3]
 done
end Go.Proofs.YtmlompedpahkjaaDoor


namespace Go.Proofs.YtmlompedpahkjaaDoor
open Go.RowKit
variable [BA]
set_option linter.unusedSectionVars false
set_option linter.unusedVariables false
set_option linter.unusedSimpArgs false

theorem Ap5 {l : List UInt8} {at' : Nat} (hl : at' + 4 ≤ l.length) (hm : l.length ≤ 1000000) {id v : Nat} {H : List Ob} (ho : H[id]? = some (.obj v (.agg [slB l, i64 (at' : Int)]))) {K : TV → List Ob → Prop}
  (hK : K (slB ((l.drop at').take 4)) (H.set id (.obj v (.agg [slB l, i64 ((at' + 4 : Nat) : Int)])))) : Ap Tryd.prog 108 [.op id v [], i64 ((4 : Nat) : Int)] H K := by
 refine QR (by simp) ?_
 have hid : id < H.length := (List.getElem?_eq_some_iff.1 ho).1
 simp -dsimp (disch := first | assumption | omega | (simp only [Ac]; done) | (simp only [Ac]; omega)) only [↓Ah, Ae, Ai, Ag, eq_self, forall_const, Nat.reduceLT, Nat.reduceEqDiff, Nat.reduceSub, Nat.reduceMul, Nat.reduceMod, Nat.reduceDiv, Nat.reducePow, UInt8.reduceToNat, Int.reduceEq, Int.reduceLT, Int.reduceLE, ↓reduceIte, Nat.reduceAdd, Int.reduceToNat, reduceCtorEq, Nat.reduceLeDiff, ↓SY, ho]
 exact hK
theorem Asa : ∀ q : List UInt8, q.length = 4 → ∃ a b c d, q = [a, b, c, d]
 | [a, b, c, d], _ => ⟨a, b, c, d, rfl⟩
theorem Akm {x y : List UInt8} (e0 : x.getD 0 0 = y.getD 0 0) (e1 : x.getD 1 0 = y.getD 1 0) (e2 : x.getD 2 0 = y.getD 2 0) (e3 : x.getD 3 0 = y.getD 3 0) : nm4 x = nm4 y := by
 simp only [nm4, e0, e1, e2, e3]
theorem Aib (x : List UInt8) : nm4 x = nm4 (x.take 4) := by
 have g : ∀ j, j < 4 → x.getD j 0 = (x.take 4).getD j 0 := fun j hj => by rw [List.getD_eq_getElem?_getD, List.getD_eq_getElem?_getD, List.getElem?_take, if_pos hj]
 exact Akm (g 0 (by omega)) (g 1 (by omega)) (g 2 (by omega)) (g 3 (by omega))
theorem Ac5 {l : List UInt8} {at' : Nat} (hl : at' + 4 ≤ l.length) (hm : l.length ≤ 1000000) {id v : Nat} {H : List Ob} (ho : H[id]? = some (.obj v (.agg [slB l, i64 (at' : Int)]))) {K : TV → List Ob → Prop}
  (hK : K (i64 (nm4 (l.drop at') : Int)) (H.set id (.obj v (.agg [slB l, i64 ((at' + 4 : Nat) : Int)])))) : Ap Tryd.prog 79 [.op id v []] H K := by
 refine OU (by simp) ?_
 simp -dsimp (disch := first | assumption | omega | (simp only [Ac]; done) | (simp only [Ac]; omega)) only [↓Ah, Ae, Ai, Ag, eq_self, forall_const, Nat.reduceLT, Nat.reduceEqDiff, Nat.reduceSub, Nat.reduceMul, Nat.reduceMod, Nat.reduceDiv, Nat.reducePow, UInt8.reduceToNat, Int.reduceEq, Int.reduceLT, Int.reduceLE, ↓reduceIte, Nat.reduceAdd, Int.reduceToNat, reduceCtorEq, Nat.reduceLeDiff, ↓Ho, ho]
 refine Ap.callsP (Ap5 hl hm ho ?_)
 have hlen : ((l.drop at').take 4).length = 4 := by simp only [List.length_take, List.length_drop]; omega
 have hn : nm4 (l.drop at') = nm4 ((l.drop at').take 4) := Aib _
 rw [hn] at hK
 generalize (l.drop at').take 4 = q at *
 obtain ⟨a, b, c, d, rfl⟩ := Asa q hlen
 have h0 : [a, b, c, d][0]? = some a := rfl
 have h1 : [a, b, c, d][1]? = some b := rfl
 have h2 : [a, b, c, d][2]? = some c := rfl
 have h3 : [a, b, c, d][3]? = some d := rfl
 have ha := a.toNat_lt; have hb := b.toNat_lt; have hc := c.toNat_lt; have hd := d.toNat_lt
 have hnm : nm4 [a, b, c, d] = ((a.toNat * 16777216 ||| b.toNat * 65536) ||| c.toNat * 256) ||| d.toNat := by
  have o1 : a.toNat * 16777216 ||| b.toNat * 65536 = a.toNat * 16777216 + b.toNat * 65536 := by
   have := Nat.two_pow_add_eq_or_of_lt (i := 24) (b := b.toNat * 65536) (by omega) a.toNat
   rw [Nat.mul_comm]; exact this.symm
  have o2 : (a.toNat * 16777216 + b.toNat * 65536) ||| c.toNat * 256 = a.toNat * 16777216 + b.toNat * 65536 + c.toNat * 256 := by
   have := Nat.two_pow_add_eq_or_of_lt (i := 16) (b := c.toNat * 256) (by omega) (a.toNat * 256 + b.toNat)
   rw [show a.toNat * 16777216 + b.toNat * 65536 = 2 ^ 16 * (a.toNat * 256 + b.toNat) by omega]; exact this.symm
  have o3 : (a.toNat * 16777216 + b.toNat * 65536 + c.toNat * 256) ||| d.toNat = a.toNat * 16777216 + b.toNat * 65536 + c.toNat * 256 + d.toNat := by
   have := Nat.two_pow_add_eq_or_of_lt (i := 8) (b := d.toNat) (by omega) (a.toNat * 65536 + b.toNat * 256 + c.toNat)
   rw [show a.toNat * 16777216 + b.toNat * 65536 + c.toNat * 256 = 2 ^ 8 * (a.toNat * 65536 + b.toNat * 256 + c.toNat) by omega]; exact this.symm
  rw [o1, o2, o3]; rfl
 have b1 : a.toNat * 16777216 ||| b.toNat * 65536 < 4294967296 := Nat.or_lt_two_pow (n := 32) (by omega) (by omega)
 have b2 : (a.toNat * 16777216 ||| b.toNat * 65536) ||| c.toNat * 256 < 4294967296 := Nat.or_lt_two_pow (n := 32) b1 (by omega)
 rw [hnm] at hK
 generalize [a, b, c, d] = l2 at *
 simp -dsimp (disch := first | assumption | omega | (simp only [Ac]; done) | (simp only [Ac]; omega)) only [↓Ah, Ae, Ai, Ag, eq_self, forall_const, Nat.reduceLT, Nat.reduceEqDiff, Nat.reduceSub, Nat.reduceMul, Nat.reduceMod, Nat.reduceDiv, Nat.reducePow, UInt8.reduceToNat, Int.reduceEq, Int.reduceLT, Int.reduceLE, ↓reduceIte, Nat.reduceAdd, Int.reduceToNat, reduceCtorEq, Nat.reduceLeDiff, ↓Ho, ho, h0, h1, h2, h3]
 exact hK
end Go.Proofs.YtmlompedpahkjaaDoor


namespace Go.Proofs.YtmlompedpahkjaaDoor.Kit
open Go.RowKit

/-- Nothing that was there has turned; there may be more. -/
def Au (w w' : World) : Prop := Below w.heap.size w w'

theorem Au.refl (w : World) : Au w w := Below.refl _ _
theorem Au.trans {a b c : World} (h : Au a b) (k : Au b c) : Au a c := Below.trans h (Below.mono k (Below.size h))
theorem Au.drew {a b : World} (h : Au a b) : Au a b.drew := Below.drew h
theorem Au.drewN {a b : World} (h : Au a b) (n : Nat) : Au a (b.drewN n) := Below.trans h ⟨rfl, rfl, rfl, Nat.le_refl _, fun _ _ => rfl⟩
theorem Au.alloc {a b : World} (h : Au a b) (o : Obj) : Au a (b.alloc o) := Below.alloc h (Below.size h) o
theorem Below.drewN' {B : Nat} {a b : World} (n : Nat) (h : Below B a b) : Below B a (b.drewN n) := Below.trans h ⟨rfl, rfl, rfl, Nat.le_refl _, fun _ _ => rfl⟩
theorem Au.cell {w w' : World} (h : Au w w') {p : Addr} {v : Value} (hv : w.cell? p = some v) : w'.cell? p = some v := by
 rw [Below.cell h (World.block_lt_of_cell? w p hv)]; exact hv

/-- The slice's elements, from address 'a' on, are the bytes 'l'. -/
def Bs (w : World) (a : Option Addr) (l : List UInt8) : Prop :=
 ∀ j, j < l.length → ∃ b off, a = some ⟨b, off, none⟩ ∧ w.cell? ⟨b, off + j, none⟩ = some (.int .u8 (l.getD j 0).toNat)

theorem Bs.keep {w w' : World} {a : Option Addr} {l : List UInt8} (h : Bs w a l) (k : Au w w') : Bs w' a l := fun j hj =>
 let ⟨b, off, e, hc⟩ := h j hj; ⟨b, off, e, k.cell hc⟩

theorem Bs.nil (w : World) (a : Option Addr) : Bs w a [] := fun j hj => absurd hj (by simp)

theorem AdI {α : Type} (l : List α) (k : Nat) (d : α) (h : k < l.length) : l.drop k = l.getD k d :: l.drop (k + 1) := by
 rw [List.drop_eq_getElem_cons h]; simp [List.getD, h]


theorem Bs.take {w : World} {a : Option Addr} {l : List UInt8} (h : Bs w a l) (n : Nat) : Bs w a (l.take n) := fun j hj => by
 have hj' : j < l.length := by simp at hj; omega
 have hjn : j < n := by simp at hj; omega
 obtain ⟨b, off, e, hc⟩ := h j hj'
 exact ⟨b, off, e, by rw [hc]; simp [List.getD, hjn]⟩

theorem Bs.drop {w : World} {b off : Nat} {l : List UInt8} (h : Bs w (some ⟨b, off, none⟩) l) (n : Nat) : Bs w (some ⟨b, off + n, none⟩) (l.drop n) := fun j hj => by
 have hj' : n + j < l.length := by simp at hj; omega
 obtain ⟨b', off', e, hc⟩ := h (n + j) hj'
 simp only [Option.some.injEq, Addr.mk.injEq, and_true] at e
 obtain ⟨rfl, rfl⟩ := e
 refine ⟨b, off + n, rfl, ?_⟩
 rw [Nat.add_assoc, hc]
 simp [List.getD]

/-- Bytes aS cells. -/
def bv (l : List UInt8) : List Value := l.map fun x => .int .u8 (x.toNat : Int)

@[simp] theorem DI (l : List UInt8) : (bv l).length = l.length := by simp [bv]
theorem XU (l : List UInt8) (j : Nat) (h : j < l.length) : (bv l)[j]? = some (.int .u8 ((l.getD j 0).toNat : Int)) := by simp [bv, List.getD, h]
theorem Rz (l : List UInt8) : ∀ v ∈ bv l, v.oneCell' = true := by
 intro v hv; simp only [bv, List.mem_map] at hv; obtain ⟨x, _, rfl⟩ := hv; rfl

/-- A whole block of bytes reads so. -/
theorem Bs.of_block {w : World} {g : Nat} {cs : List Value} {t : TypeId} {fr : Nat × Nat} (hg : w.heap[g]? = some (.cells cs.toArray t fr)) {off : Nat} {l : List UInt8}
  (h : ∀ j, j < l.length → cs[off + j]? = some (.int .u8 ((l.getD j 0).toNat : Int))) : Bs w (some ⟨g, off, none⟩) l := fun j hj =>
 ⟨g, off, rfl, by rw [cell_of_row w g (off + j) _ t fr hg]; simpa using h j hj⟩

theorem Bs.src {w : World} {a : Option Addr} {l : List UInt8} (h : Bs w a l) (hp : 0 < (bv l).length) : ∃ ad, a = some ad ∧ ∀ j v, (bv l)[j]? = some v → w.cell? (ad.add j) = some v := by
 obtain ⟨b, off, rfl, _⟩ := h 0 (by simpa using hp)
 refine ⟨_, rfl, fun j v hv => ?_⟩
 have hj : j < l.length := by
  rcases Nat.lt_or_ge j l.length with h1 | h1
  ·exact h1
  ·rw [List.getElem?_eq_none (by simpa using h1)] at hv; cases hv
 obtain ⟨b', off', e, hc⟩ := h j hj
 simp only [Option.some.injEq, Addr.mk.injEq, and_true] at e
 obtain ⟨rfl, rfl⟩ := e
 rw [XU l j hj] at hv
 rw [show (⟨b, off, none⟩ : Addr).add j = ⟨b, off + j, none⟩ from by simp [Addr.add], hc]; exact hv

theorem Aas (x : UInt8) : (x.toNat : Int) < 256 := by have := UInt8.toNat_lt x; omega

theorem Bs.at {w : World} {a : Option Addr} {l : List UInt8} (h : Bs w a l) {j : Nat} (hj : j < l.length) :
  ∃ b off x, a = some ⟨b, off, none⟩ ∧ w.cell? ⟨b, off + j, none⟩ = some (.int .u8 (x.toNat : Int)) ∧ (x.toNat : Int) < 256 ∧ Hid (x = l.getD j 0) := by
 obtain ⟨b, off, e, hc⟩ := h j hj
 exact ⟨b, off, l.getD j 0, e, hc, Aas _, rfl⟩

theorem Bs.at' {w : World} {b off : Nat} {l : List UInt8} (h : Bs w (some ⟨b, off, none⟩) l) {j : Nat} (hj : j < l.length) :
  ∃ x, w.cell? ⟨b, off + j, none⟩ = some (.int .u8 (x.toNat : Int)) ∧ (x.toNat : Int) < 256 ∧ Hid (x = l.getD j 0) := by
 obtain ⟨b', off', e, hc⟩ := h j hj
 simp only [Option.some.injEq, Addr.mk.injEq, and_true] at e
 obtain ⟨rfl, rfl⟩ := e
 exact ⟨l.getD j 0, hc, Aas _, rfl⟩

theorem EM {P : Program} {f : FuncId} {args : Array Value} {w : World} {n : Nat} {v : Value}
  (h : Calls P f args (w.drewN n) fun e w' => e = .returned v ∧ w.drewN n = w') : Calls P f args (w.drewN n) fun e w'' => e = .returned v ∧ ∃ m, w'' = w.drewN m :=
 h.mono fun _ _ ⟨he, hm⟩ => ⟨he, n, hm.symm⟩

theorem Aed {a w : World} {row : Option Nat} (h : a.grownBy w row) : a.grownBy w.drew row := ⟨h.os, h.tape, h.output, h.size, h.block⟩
theorem YN {a w : World} {g : Nat} (h : a.grownBy w (some g)) {p : Addr} (hp : p.block = g ∨ a.heap.size ≤ p.block) (u : Value) : a.grownBy (w.setCell p u) (some g) :=
 ⟨h.os, h.tape, h.output, by simpa [World.setCell] using h.size, fun i hi hne => (Below.heap_setCell w p u i (by
  rintro rfl
  rcases hp with hp | hp
  ·exact hne (by rw [hp])
  ·omega)).trans (h.block i hi hne)⟩

end Go.Proofs.YtmlompedpahkjaaDoor.Kit


namespace Go.Proofs.YtmlompedpahkjaaDoor.Kit
open Go.RowKit

def rot (x n : Nat) : Nat := (x * 2 ^ n % 4294967296) ||| (x / 2 ^ (32 - n))
def sf1 (b c d : Nat) : Nat := (b &&& c) ||| ((4294967295 ^^^ b) &&& d)
def sf2 (b c d : Nat) : Nat := (b ^^^ c) ^^^ d
def sf3 (b c d : Nat) : Nat := ((b &&& c) ||| (b &&& d)) ||| (c &&& d)
def sff (i b c d : Nat) : Nat := if i < 20 then sf1 b c d else if i < 40 then sf2 b c d else if i < 60 then sf3 b c d else sf2 b c d
def skk (i : Nat) : Nat := if i < 20 then 1518500249 else if i < 40 then 1859775393 else if i < 60 then 2400959708 else 3395469782

theorem Pj {a b : Nat} (ha : a < 4294967296) (hb : b < 4294967296) : a ||| b < 4294967296 := Nat.or_lt_two_pow (n := 32) ha hb
theorem CV {a b : Nat} (ha : a < 4294967296) : a &&& b < 4294967296 := Nat.lt_of_le_of_lt Nat.and_le_left ha
theorem Bl {a b : Nat} (ha : a < 4294967296) (hb : b < 4294967296) : a ^^^ b < 4294967296 := Nat.xor_lt_two_pow (n := 32) ha hb

theorem AdH {x : Nat} (n : Nat) (hx : x < 4294967296) : rot x n < 4294967296 :=
 Pj (Nat.mod_lt _ (by omega)) (Nat.lt_of_le_of_lt (Nat.div_le_self _ _) hx)
theorem Al8 {b c d : Nat} (hb : b < 4294967296) : sf1 b c d < 4294967296 := Pj (CV hb) (CV (Bl (by omega) hb))
theorem Ai1 {b c d : Nat} (hb : b < 4294967296) (hc : c < 4294967296) (hd : d < 4294967296) : sf2 b c d < 4294967296 := Bl (Bl hb hc) hd
theorem An2 {b c d : Nat} (hb : b < 4294967296) (hc : c < 4294967296) : sf3 b c d < 4294967296 := Pj (Pj (CV hb) (CV hb)) (CV hc)
theorem AnJ (i : Nat) {b c d : Nat} (hb : b < 4294967296) (hc : c < 4294967296) (hd : d < 4294967296) : sff i b c d < 4294967296 := by
 unfold sff; split
 ·exact Al8 hb
 ·split
  ·exact Ai1 hb hc hd
  ·split
   ·exact An2 hb hc
   ·exact Ai1 hb hc hd

/-- Four bytes. -/
def AfB (p : List UInt8) (i : Nat) : Nat := (p.getD i 0).toNat * 16777216 + (p.getD (i + 1) 0).toNat * 65536 + (p.getD (i + 2) 0).toNat * 256 + (p.getD (i + 3) 0).toNat
theorem Aj7 (p : List UInt8) (i : Nat) : AfB p i < 4294967296 := by
 unfold AfB
 have := UInt8.toNat_lt (p.getD i 0); have := UInt8.toNat_lt (p.getD (i + 1) 0); have := UInt8.toNat_lt (p.getD (i + 2) 0); have := UInt8.toNat_lt (p.getD (i + 3) 0)
 omega

theorem XT {L : List Nat} {M : Nat} (h : ∀ x ∈ L, x < M) (h0 : 0 < M) (j : Nat) : L.getD j 0 < M := by
 rw [List.getD_eq_getElem?_getD]
 cases e : L[j]? with
 | none => exact h0
 | some x => exact h x (List.mem_of_getElem? e)

/-- The schedule's first i words. -/
def XE (p : List UInt8) (L : List Nat) (i : Nat) : Nat :=
 if i < 16 then AfB p (4 * i) else rot (((L.getD (i - 3) 0 ^^^ L.getD (i - 8) 0) ^^^ L.getD (i - 14) 0) ^^^ L.getD (i - 16) 0) 1
def wl (p : List UInt8) : Nat → List Nat
 | 0 => []
 | i + 1 => wl p i ++ [XE p (wl p i) i]
@[simp] theorem L6 (p : List UInt8) (i : Nat) : (wl p i).length = i := by induction i with
 | zero => rfl
 | succ i ih => simp [wl, ih]
theorem ApI (p : List UInt8) (i : Nat) : ∀ x ∈ wl p i, x < 4294967296 := by
 induction i with
 | zero => intro x hx; cases hx
 | succ i ih =>
  intro x hx
  simp only [wl, List.mem_append, List.mem_singleton] at hx
  rcases hx with hx | rfl
  ·exact ih x hx
  ·have hg : ∀ j, (wl p i).getD j 0 < 4294967296 := XT ih (by omega)
   unfold XE; split
   ·exact Aj7 _ _
   ·exact AdH _ (Bl (Bl (Bl (hg _) (hg _)) (hg _)) (hg _))
theorem Dx (p : List UInt8) (i j : Nat) : (wl p i).getD j 0 < 4294967296 := XT (ApI p i) (by omega) j

/-- Five words. -/
structure V5 where
 a : Nat
 b : Nat
 c : Nat
 d : Nat
 e : Nat
def V5.ok (v : V5) : Prop := v.a < 4294967296 ∧ v.b < 4294967296 ∧ v.c < 4294967296 ∧ v.d < 4294967296 ∧ v.e < 4294967296
def V5.list (v : V5) : List Nat := [v.a, v.b, v.c, v.d, v.e]
def D8 (L : List Nat) : List Value := L.map fun (n : Nat) => Value.int .u32 (n : Int)
@[simp] theorem Ji (L : List Nat) : (D8 L).length = L.length := by simp [D8]

def TA (n : Nat) : List Value := List.replicate n (.int .u32 0)
theorem YU (L : List Nat) (j : Nat) (h : j < L.length) : (D8 L)[j]? = some (.int .u32 ((L.getD j 0 : Nat) : Int)) := by simp [D8, List.getD, h]
theorem AaL (p : List UInt8) (k : Nat) (hk : k < 80) : (D8 (wl p k) ++ TA (80 - k))[k]? = some (.int .u32 0) := by
 rw [List.getElem?_append_right (by simp), Ji, L6, Nat.sub_self, TA, List.getElem?_replicate, if_pos (by omega)]
theorem Na (p : List UInt8) (k j : Nat) (hj : j < k) : (D8 (wl p k) ++ TA (80 - k))[j]? = some (.int .u32 (((wl p k).getD j 0 : Nat) : Int)) := by
 rw [List.getElem?_append_left (by simpa using hj), YU _ _ (by simpa using hj)]
theorem Aa2 (p : List UInt8) (k x : Nat) (hk : k < 80) (hx : x = XE p (wl p k) k) : (D8 (wl p k) ++ TA (80 - k)).set k (.int .u32 (x : Int)) = D8 (wl p (k + 1)) ++ TA (80 - (k + 1)) := by
 subst hx
 rw [List.set_append_right _ _ (by simp)]
 simp only [Ji, L6, Nat.sub_self]
 rw [show 80 - k = (80 - (k + 1)) + 1 from by omega]
 simp [TA, List.replicate_succ, wl, D8]

theorem An3 (p : List UInt8) (i : Nat) (h : i < 80) : (D8 (wl p 80) ++ TA (80 - 80))[i]? = some (.int .u32 (((wl p 80).getD i 0 : Nat) : Int)) := Na p 80 i h
def Ie (i : Nat) (v : V5) (x : Nat) : Nat := ((((rot v.a 5 + sff i v.b v.c v.d) % 4294967296 + v.e) % 4294967296 + skk i) % 4294967296 + x) % 4294967296
def rnd (i : Nat) (v : V5) (x : Nat) : V5 := ⟨Ie i v x, v.a, rot v.b 30, v.c, v.d⟩
theorem Xq (i : Nat) {v : V5} (x : Nat) (h : v.ok) : (rnd i v x).ok := ⟨Nat.mod_lt _ (by omega), h.1, AdH _ h.2.1, h.2.2.1, h.2.2.2.1⟩
def ZP : Nat → V5 → List Nat → V5
 | _, v, [] => v
 | i, v, x :: l => ZP (i + 1) (rnd i v x) l
theorem AdC (l : List Nat) : ∀ (i : Nat) (v : V5), v.ok → (ZP i v l).ok := by
 induction l with
 | nil => intro i v h; exact h
 | cons x l ih => intro i v h; exact ih _ _ (Xq i x h)
theorem Aep (i : Nat) (v : V5) (l : List Nat) (h : i < l.length) : ZP i v (l.drop i) = ZP (i + 1) (rnd i v (l.getD i 0)) (l.drop (i + 1)) := by
 rw [AdI l i 0 h]; rfl

def AkA (h v : V5) : V5 := ⟨(h.a + v.a) % 4294967296, (h.b + v.b) % 4294967296, (h.c + v.c) % 4294967296, (h.d + v.d) % 4294967296, (h.e + v.e) % 4294967296⟩
theorem AaD (h v : V5) : (AkA h v).ok := ⟨Nat.mod_lt _ (by omega), Nat.mod_lt _ (by omega), Nat.mod_lt _ (by omega), Nat.mod_lt _ (by omega), Nat.mod_lt _ (by omega)⟩
/-- One block of 64 bytes. -/
def blk (h : V5) (p : List UInt8) : V5 := AkA h (ZP 0 h (wl p 80))

/-- Blocks, aS long aS there are any: the state, and what is left. -/
def AgY : Nat → V5 → List UInt8 → V5 × List UInt8
 | 0, h, l => (h, l)
 | f + 1, h, l => if l.length < 64 then (h, l) else AgY f (blk h (l.take 64)) (l.drop 64)
def Bo (h : V5) (l : List UInt8) : V5 × List UInt8 := AgY l.length h l

theorem Aeb : ∀ (f g : Nat) (h : V5) (l : List UInt8), l.length ≤ f → l.length ≤ g → AgY f h l = AgY g h l := by
 intro f
 induction f with
 | zero =>
  intro g h l hf _
  have : l = [] := List.eq_nil_of_length_eq_zero (by omega)
  subst this
  cases g <;> simp [AgY]
 | succ f ih =>
  intro g h l hf hg
  cases g with
  | zero =>
   have : l = [] := List.eq_nil_of_length_eq_zero (by omega)
   subst this; simp [AgY]
  | succ g =>
   simp only [AgY]
   split
   ·rfl
   ·exact ih g _ _ (by simp; omega) (by simp; omega)
theorem Dp (h : V5) (l : List UInt8) (hl : l.length < 64) : Bo h l = (h, l) := by
 unfold Bo
 cases hn : l.length with
 | zero => rfl
 | succ n => simp only [AgY]; rw [if_pos hl]
theorem F5 (h : V5) (l : List UInt8) (hl : 64 ≤ l.length) : Bo h l = Bo (blk h (l.take 64)) (l.drop 64) := by
 unfold Bo
 obtain ⟨n, hn⟩ : ∃ n, l.length = n + 1 := ⟨l.length - 1, by omega⟩
 rw [hn]
 simp only [AgY]
 rw [if_neg (by omega)]
 exact Aeb _ _ _ _ (by simp; omega) (Nat.le_refl _)
theorem QB (h : V5) (l : List UInt8) : (Bo h l).2.length < 64 := by
 suffices H : ∀ (n : Nat) (h : V5) (l : List UInt8), l.length ≤ n → (Bo h l).2.length < 64 from H _ h l (Nat.le_refl _)
 intro n
 induction n with
 | zero => intro h l hl; rw [Dp _ _ (by omega)]; simp; omega
 | succ n ih =>
  intro h l hl
  rcases Nat.lt_or_ge l.length 64 with h1 | h1
  ·rw [Dp _ _ h1]; exact h1
  ·rw [F5 _ _ h1]; exact ih _ _ (by simp; omega)
theorem Wq (h : V5) (l : List UInt8) (hh : h.ok) : (Bo h l).1.ok := by
 suffices H : ∀ (n : Nat) (h : V5) (l : List UInt8), h.ok → l.length ≤ n → (Bo h l).1.ok from H _ h l hh (Nat.le_refl _)
 intro n
 induction n with
 | zero => intro h l hh hl; rw [Dp _ _ (by omega)]; exact hh
 | succ n ih =>
  intro h l hh hl
  rcases Nat.lt_or_ge l.length 64 with h1 | h1
  ·rw [Dp _ _ h1]; exact hh
  ·rw [F5 _ _ h1]; exact ih _ _ (AaD _ _) (by simp; omega)
/-- More bytes behind: the Bo of the first part come first. -/
theorem XI (h : V5) (l m : List UInt8) : Bo h (l ++ m) = Bo (Bo h l).1 ((Bo h l).2 ++ m) := by
 suffices H : ∀ (n : Nat) (h : V5) (l : List UInt8), l.length ≤ n → Bo h (l ++ m) = Bo (Bo h l).1 ((Bo h l).2 ++ m) from H _ h l (Nat.le_refl _)
 intro n
 induction n with
 | zero => intro h l hl; rw [Dp h l (by omega)]
 | succ n ih =>
  intro h l hl
  rcases Nat.lt_or_ge l.length 64 with h1 | h1
  ·rw [Dp h l h1]
  ·rw [F5 h l h1, F5 h (l ++ m) (by simp; omega), List.take_append_of_le_length h1, List.drop_append_of_le_length h1]
   exact ih _ _ (by simp; omega)

def H0 : V5 := ⟨1732584193, 4023233417, 2562383102, 271733878, 3285377520⟩
theorem AfM : H0.ok := by unfold V5.ok H0; refine ⟨?_, ?_, ?_, ?_, ?_⟩ <;> decide

/-- The byte k of 8, the greatest first. -/
def be8 (n : Nat) : List UInt8 := (List.range 8).map fun k => UInt8.ofNat (n / 2 ^ (56 - 8 * k) % 256)
theorem EN (n : Nat) : (be8 n).length = 8 := by simp [be8]
theorem AbG (n i : Nat) (hi : i < 8) : (be8 n).take (i + 1) = (be8 n).take i ++ [UInt8.ofNat (n / 2 ^ (56 - 8 * i) % 256)] := by
 rw [List.take_succ_eq_append_getElem (by rw [EN]; exact hi)]
 congr 2
 simp [be8]
/-- What is put behind n bytes. -/
def Tt (n : Nat) : List UInt8 := 128 :: List.replicate ((119 - n % 64) % 64) 0 ++ be8 (n * 8 % 18446744073709551616)
/-- The 20 bytes of five words. -/
def CO (v : V5) : List UInt8 := (List.range 20).map fun i => UInt8.ofNat (v.list.getD (i / 4) 0 / 2 ^ (24 - 8 * (i % 4)) % 256)
theorem BJ (v : V5) : (CO v).length = 20 := by simp [CO]
theorem Xf (v : V5) (i : Nat) (hi : i < 20) : (CO v).take (i + 1) = (CO v).take i ++ [UInt8.ofNat (v.list.getD (i / 4) 0 / 2 ^ (24 - 8 * (i % 4)) % 256)] := by
 rw [List.take_succ_eq_append_getElem (by rw [BJ]; exact hi)]
 congr 2
 simp [CO]
def z8 (n : Nat) : List Value := List.replicate n (.int .u8 0)
theorem Abe (v : V5) (i : Nat) (hi : i < 20) : (bv ((CO v).take i) ++ z8 (20 - i))[i]? = some (.int .u8 0) := by
 rw [List.getElem?_append_right (by simp [BJ]; omega), DI, List.length_take, BJ, z8, List.getElem?_replicate, if_pos (by omega)]
theorem Acb (v : V5) (i k : Nat) (hi : i < 5) (hk : k < 4) : (CO v).take (4 * i + k + 1) = (CO v).take (4 * i + k) ++ [UInt8.ofNat (v.list.getD i 0 / 2 ^ (24 - 8 * k) % 256)] := by
 have h := Xf v (4 * i + k) (by omega)
 rw [show (4 * i + k) / 4 = i from by omega, show (4 * i + k) % 4 = k from by omega] at h
 exact h
theorem Adl (v : V5) (i : Nat) (hi : i < 20) {y : UInt8} (hy : (CO v).take (i + 1) = (CO v).take i ++ [y]) {z : Int} (hz : z = (y.toNat : Int)) : (bv ((CO v).take i) ++ z8 (20 - i)).set i (.int .u8 z) = bv ((CO v).take (i + 1)) ++ z8 (20 - (i + 1)) := by
 subst hz
 have hl : (bv ((CO v).take i)).length = i := by simp [BJ]; omega
 rw [List.set_append_right _ _ (by omega), hl, Nat.sub_self, hy, show 20 - i = (20 - (i + 1)) + 1 from by omega]
 simp [z8, List.replicate_succ, bv]
theorem Af3 {n z j m : Nat} (hz : z = (119 - n % 64) % 64) (hj : j < z) (hm : m = n + 1 + j) : (((m : Int) % 64) != 56) = true := by rw [bne_iff_ne]; omega
theorem Ahk {n z j m : Nat} (hz : z = (119 - n % 64) % 64) (hj : j = z) (hm : m = n + 1 + j) : (((m : Int) % 64) != 56) = false := by rw [bne_eq_false_iff_eq]; omega
/-- The Ai5 text is made of whole Bo. -/
theorem Ai5 (l : List UInt8) : ∃ q, (l ++ Tt l.length).length = 64 * q := by
 have h : (l ++ Tt l.length).length = l.length + (1 + (119 - l.length % 64) % 64 + 8) := by simp [Tt, EN]; omega
 rw [h]
 exact ⟨(l.length + (1 + (119 - l.length % 64) % 64 + 8)) / 64, by omega⟩
theorem AhA (n : Nat) : (Tt n).length ≤ 73 := by simp [Tt, EN]; omega
theorem Ahf (n q : Nat) (hq : q < 8) : (be8 n).take (8 - q) = (be8 n).take (7 - q) ++ [UInt8.ofNat (n / 2 ^ (8 * q) % 256)] := by
 have h := AbG n (7 - q) (by omega)
 rw [show 7 - q + 1 = 8 - q from by omega, show 56 - 8 * (7 - q) = 8 * q from by omega] at h
 exact h
/-- SHA-1. -/
def sha (l : List UInt8) : List UInt8 := CO (Bo H0 (l ++ Tt l.length)).1
@[simp] theorem EH (l : List UInt8) : (sha l).length = 20 := by simp [sha, CO]

/-- The rounds from i on, out of the state v, come to what all come to out of h. -/
structure OM (p : List UInt8) (h : V5) (i : Nat) (v : V5) : Prop where
 eq : ZP i v ((wl p 80).drop i) = ZP 0 h (wl p 80)
theorem OM.zero (p : List UInt8) (h : V5) : OM p h 0 h := ⟨rfl⟩
theorem OM.succ {p : List UInt8} {h v : V5} {i : Nat} (H : OM p h i v) (hi : i < 80) : OM p h (i + 1) (rnd i v ((wl p 80).getD i 0)) := by
 have e := H.eq; rw [Aep _ _ _ (by rw [L6]; exact hi)] at e; exact ⟨e⟩
theorem OM.last {p : List UInt8} {h v : V5} (H : OM p h 80 v) : v = ZP 0 h (wl p 80) := by
 have e := H.eq; rw [List.drop_eq_nil_of_le (by rw [L6]; exact Nat.le_refl _)] at e; exact e
/-- The sum of two states, aS far aS it is made. -/
def Ai8 (h v : V5) (k : Nat) : List Nat := (AkA h v).list.take k ++ h.list.drop k
theorem VF (h v : V5) (k : Nat) : (Ai8 h v k).length = 5 := by
 simp [Ai8, V5.list]; omega
theorem Aba (h v : V5) (k : Nat) (hk : k < 5) : (D8 (Ai8 h v k))[k]? = some (.int .u32 ((h.list.getD k 0 : Nat) : Int)) := by
 rcases (show k = 0 ∨ k = 1 ∨ k = 2 ∨ k = 3 ∨ k = 4 from by omega) with rfl | rfl | rfl | rfl | rfl <;> rfl
theorem Abs (h v : V5) (k : Nat) (hk : k < 5) : (D8 (Ai8 h v k)).set k (.int .u32 (((h.list.getD k 0 + v.list.getD k 0) % 4294967296 : Nat) : Int)) = D8 (Ai8 h v (k + 1)) := by
 rcases (show k = 0 ∨ k = 1 ∨ k = 2 ∨ k = 3 ∨ k = 4 from by omega) with rfl | rfl | rfl | rfl | rfl <;> rfl
theorem Zc (h v : V5) : Ai8 h v 5 = (AkA h v).list := rfl
theorem RF (v : V5) (k : Nat) (hk : k < 5) : (D8 v.list)[k]? = some (.int .u32 ((v.list.getD k 0 : Nat) : Int)) := by
 rcases (show k = 0 ∨ k = 1 ∨ k = 2 ∨ k = 3 ∨ k = 4 from by omega) with rfl | rfl | rfl | rfl | rfl <;> rfl
theorem V5.ok.get {v : V5} (h : v.ok) (k : Nat) : v.list.getD k 0 < 4294967296 := by
 refine XT ?_ (by omega) k
 intro x hx
 simp only [V5.list, List.mem_cons, List.not_mem_nil, or_false] at hx
 obtain ⟨h1, h2, h3, h4, h5⟩ := h
 rcases hx with rfl | rfl | rfl | rfl | rfl <;> assumption
theorem ArM {i b c d : Nat} (h : i < 20) : sff i b c d = sf1 b c d := by unfold sff; rw [if_pos h]
theorem ArE {i b c d : Nat} (h : 20 ≤ i) (h2 : i < 40) : sff i b c d = sf2 b c d := by unfold sff; rw [if_neg (by omega), if_pos h2]
theorem Arl {i b c d : Nat} (h : 40 ≤ i) (h2 : i < 60) : sff i b c d = sf3 b c d := by unfold sff; rw [if_neg (by omega), if_neg (by omega), if_pos h2]
theorem Arv {i b c d : Nat} (h : 60 ≤ i) : sff i b c d = sf2 b c d := by unfold sff; rw [if_neg (by omega), if_neg (by omega), if_neg (by omega)]
theorem Ars {i : Nat} (h : i < 20) : skk i = 1518500249 := by unfold skk; rw [if_pos h]
theorem Art {i : Nat} (h : 20 ≤ i) (h2 : i < 40) : skk i = 1859775393 := by unfold skk; rw [if_neg (by omega), if_pos h2]
theorem Arn {i : Nat} (h : 40 ≤ i) (h2 : i < 60) : skk i = 2400959708 := by unfold skk; rw [if_neg (by omega), if_neg (by omega), if_pos h2]
theorem ArG {i : Nat} (h : 60 ≤ i) : skk i = 3395469782 := by unfold skk; rw [if_neg (by omega), if_neg (by omega), if_neg (by omega)]
end Go.Proofs.YtmlompedpahkjaaDoor.Kit


namespace Go.Proofs.YtmlompedpahkjaaDoor.Kit












/-- How great the second sum gets. -/
def tb : Nat → Nat
 | 0 => 65520
 | i + 1 => tb i + (65520 + 255 * (i + 1))

end Go.Proofs.YtmlompedpahkjaaDoor.Kit


namespace Go.Proofs.YtmlompedpahkjaaDoor.Kit
open Go.RowKit

theorem IW {a b : Int} (h : a = b) : Ending.returned (.int .u32 a) = .returned (.int .u32 b) := by rw [h]
end Go.Proofs.YtmlompedpahkjaaDoor.Kit


namespace Go.Proofs.YtmlompedpahkjaaDoor.Kit
open Go.RowKit
set_option linter.unusedVariables false

theorem Ui (x : Nat) (k : Nat) (hx : x < 4294967296) (hk : k < 32) : bits .or .u32 ((x : Int) * (2 ^ k : Nat) % 4294967296) ((x : Int) / (2 ^ (32 - k) : Nat)) = ((rot x k : Nat) : Int) := by
 rw [show (x : Int) * (2 ^ k : Nat) % 4294967296 = ((x * 2 ^ k % 4294967296 : Nat) : Int) from by rw [Int.natCast_emod, Int.natCast_mul]; rfl, show (x : Int) / (2 ^ (32 - k) : Nat) = ((x / 2 ^ (32 - k) : Nat) : Int) from by rw [Int.natCast_ediv],
  u32_or_nat _ _ (Nat.mod_lt _ (by omega)) (Nat.lt_of_le_of_lt (Nat.div_le_self _ _) hx)]
 rfl

set_option maxRecDepth 100000 in
set_option maxHeartbeats 400000 in
theorem RG (x : Nat) (k : Int) (w : World) (hx : x < 4294967296) (hk : k = 1 ∨ k = 5 ∨ k = 30) :
  Calls Tryd.prog 131 #[.int .u32 x, .int .i64 k] w fun e w' => e = .returned (.int .u32 (rot x k.toNat)) ∧ w = w' := by
 rcases hk with rfl | rfl | rfl
 ·have hm : bits .and .u64 1 31 = 1 := by decide
  go_enter Tryd.func131, Tryd.ntmps131
  go_wp2
  go_ret
  exact ⟨IW (Ui x 1 hx (by omega)), rfl⟩
 ·have hm : bits .and .u64 5 31 = 5 := by decide
  go_enter Tryd.func131, Tryd.ntmps131
  go_wp2
  go_ret
  exact ⟨IW (Ui x 5 hx (by omega)), rfl⟩
 ·have hm : bits .and .u64 30 31 = 30 := by decide
  go_enter Tryd.func131, Tryd.ntmps131
  go_wp2
  go_ret
  exact ⟨IW (Ui x 30 hx (by omega)), rfl⟩

set_option maxRecDepth 100000 in
set_option maxHeartbeats 400000 in
theorem turn (x : Nat) (k : Int) (w : World) (hx : x < 4294967296) (hk : k = 1 ∨ k = 5 ∨ k = 30) :
  Calls Tryd.prog 107 #[.int .u32 x, .int .i64 k] w fun e w' => e = .returned (.int .u32 (rot x k.toNat)) ∧ ∃ n, w' = w.drewN n := by
 rcases hk with rfl | rfl | rfl
 ·go_enter Tryd.func107, Tryd.ntmps107
  go_wp2
  go_quiet (fail)
  go_wp2
  go_ret
  exact ⟨IW (Ui x 1 hx (by omega)), _, rfl⟩
 ·go_enter Tryd.func107, Tryd.ntmps107
  go_wp2
  go_quiet (fail)
  go_wp2
  go_ret
  exact ⟨IW (Ui x 5 hx (by omega)), _, rfl⟩
 ·go_enter Tryd.func107, Tryd.ntmps107
  go_wp2
  go_quiet (fail)
  go_wp2
  go_ret
  exact ⟨IW (Ui x 30 hx (by omega)), _, rfl⟩

theorem AbC (a b c d : Nat) (ha : a < 4294967296) (hb : b < 4294967296) (hc : c < 4294967296) (hd : d < 4294967296) :
  bits .xor .u32 (bits .xor .u32 (bits .xor .u32 a b) c) d = (((((a ^^^ b) ^^^ c) ^^^ d : Nat)) : Int) := by
 rw [u32_xor_nat _ _ ha hb, u32_xor_nat _ _ (Bl ha hb) hc, u32_xor_nat _ _ (Bl (Bl ha hb) hc) hd]
theorem Afq (b c d : Nat) (hb : b < 4294967296) (hc : c < 4294967296) (hd : d < 4294967296) :
  bits .or .u32 (bits .and .u32 b c) (bits .and .u32 (bits .xor .u32 IntKind.u32.max b) d) = ((sf1 b c d : Nat) : Int) := by
 rw [show IntKind.u32.max = ((4294967295 : Nat) : Int) from rfl, u32_and_nat _ _ hb hc, u32_xor_nat _ _ (by omega) hb, u32_and_nat _ _ (Bl (by omega) hb) hd, u32_or_nat _ _ (CV hb) (CV (Bl (by omega) hb))]; rfl
theorem X6 (b c d : Nat) (hb : b < 4294967296) (hc : c < 4294967296) (hd : d < 4294967296) : bits .xor .u32 (bits .xor .u32 b c) d = ((sf2 b c d : Nat) : Int) := by
 rw [u32_xor_nat _ _ hb hc, u32_xor_nat _ _ (Bl hb hc) hd]; rfl
theorem Afb (b c d : Nat) (hb : b < 4294967296) (hc : c < 4294967296) (hd : d < 4294967296) :
  bits .or .u32 (bits .or .u32 (bits .and .u32 b c) (bits .and .u32 b d)) (bits .and .u32 c d) = ((sf3 b c d : Nat) : Int) := by
 rw [u32_and_nat _ _ hb hc, u32_and_nat _ _ hb hd, u32_and_nat _ _ hc hd, u32_or_nat _ _ (CV hb) (CV hb), u32_or_nat _ _ (Pj (CV hb) (CV hb)) (CV hc)]; rfl

set_option maxRecDepth 100000 in
set_option maxHeartbeats 400000 in
theorem Asv (b c d : Nat) (w : World) (hb : b < 4294967296) (hc : c < 4294967296) (hd : d < 4294967296) :
  Calls Tryd.prog 151 #[.int .u32 b, .int .u32 c, .int .u32 d] w fun e w' => e = .returned (.int .u32 (sf1 b c d)) ∧ w = w' := by
 go_enter Tryd.func151, Tryd.ntmps151
 go_wp2
 go_ret
 exact ⟨IW (Afq b c d hb hc hd), rfl⟩

set_option maxRecDepth 100000 in
set_option maxHeartbeats 400000 in
theorem Ar2 (b c d : Nat) (w : World) (hb : b < 4294967296) (hc : c < 4294967296) (hd : d < 4294967296) :
  Calls Tryd.prog 152 #[.int .u32 b, .int .u32 c, .int .u32 d] w fun e w' => e = .returned (.int .u32 (sf2 b c d)) ∧ w = w' := by
 go_enter Tryd.func152, Tryd.ntmps152
 go_wp2
 go_ret
 exact ⟨IW (X6 b c d hb hc hd), rfl⟩

set_option maxRecDepth 100000 in
set_option maxHeartbeats 400000 in
theorem Asq (b c d : Nat) (w : World) (hb : b < 4294967296) (hc : c < 4294967296) (hd : d < 4294967296) :
  Calls Tryd.prog 153 #[.int .u32 b, .int .u32 c, .int .u32 d] w fun e w' => e = .returned (.int .u32 (sf3 b c d)) ∧ w = w' := by
 go_enter Tryd.func153, Tryd.ntmps153
 go_wp2
 go_ret
 exact ⟨IW (Afb b c d hb hc hd), rfl⟩

set_option maxRecDepth 100000 in
set_option maxHeartbeats 400000 in
theorem Asi (b c d : Nat) (w : World) (hb : b < 4294967296) (hc : c < 4294967296) (hd : d < 4294967296) :
  Calls Tryd.prog 154 #[.int .u32 b, .int .u32 c, .int .u32 d] w fun e w' => e = .returned (.int .u32 (sf2 b c d)) ∧ w = w' := by
 go_enter Tryd.func154, Tryd.ntmps154
 go_wp2
 go_ret
 exact ⟨IW (X6 b c d hb hc hd), rfl⟩

theorem AbI (x0 x1 x2 x3 : UInt8) : bits .or .u32 (bits .or .u32 (bits .or .u32 ((x0.toNat : Int) * 16777216) ((x1.toNat : Int) * 65536)) ((x2.toNat : Int) * 256)) (x3.toNat : Int) =
  ((x0.toNat * 16777216 + x1.toNat * 65536 + x2.toNat * 256 + x3.toNat : Nat) : Int) := by
 have := UInt8.toNat_lt x0; have := UInt8.toNat_lt x1; have := UInt8.toNat_lt x2; have := UInt8.toNat_lt x3
 rw [show (x0.toNat : Int) * 16777216 = ((x0.toNat * 16777216 : Nat) : Int) from by omega, show (x1.toNat : Int) * 65536 = ((x1.toNat * 65536 : Nat) : Int) from by omega, show (x2.toNat : Int) * 256 = ((x2.toNat * 256 : Nat) : Int) from by omega,
  u32_or_nat _ _ (by omega) (by omega), nat_join 24 (x0.toNat * 16777216) (x1.toNat * 65536) (by omega) (by omega),
  u32_or_nat _ _ (by omega) (by omega), nat_join 16 (x0.toNat * 16777216 + x1.toNat * 65536) (x2.toNat * 256) (by omega) (by omega),
  u32_or_nat _ _ (by omega) (by omega), nat_join 8 (x0.toNat * 16777216 + x1.toNat * 65536 + x2.toNat * 256) x3.toNat (by omega) (by omega)]

set_option maxRecDepth 100000 in
set_option maxHeartbeats 400000 in
theorem Aky (a : Option Addr) (cap i : Nat) (p : List UInt8) (w : World) (hb : Bs w a p) (hi : i + 4 ≤ p.length) (hp : p.length ≤ 9223372036854775807) :
  Calls Tryd.prog 106 #[.slice a p.length cap, .int .i64 i] w fun e w' => e = .returned (.int .u32 (AfB p i)) ∧ ∃ n, w' = w.drewN n := by
 obtain ⟨b, off, x0, rfl, hc0, hx0, HX0⟩ := hb.at (j := i) (by omega)
 obtain ⟨x1, hc1, hx1, HX1⟩ := hb.at' (j := i + 1) (by omega)
 obtain ⟨x2, hc2, hx2, HX2⟩ := hb.at' (j := i + 2) (by omega)
 obtain ⟨x3, hc3, hx3, HX3⟩ := hb.at' (j := i + 3) (by omega)
 go_enter Tryd.func106, Tryd.ntmps106
 go_wp2
 go_quiet (fail)
 go_wp2
 go_ret
 refine ⟨IW ?_, _, rfl⟩
 rw [AbI]; unfold AfB; rw [← HX0.out, ← HX1.out, ← HX2.out, ← HX3.out]
theorem Ag5 (a : Option Addr) (cap : Nat) (i : Int) (p : List UInt8) (w : World) (hb : Bs w a p) (hp : p.length = 64) (hi : 0 ≤ i ∧ i + 4 ≤ 64) :
  Calls Tryd.prog 106 #[.slice a 64 cap, .int .i64 i] w fun e w' => e = .returned (.int .u32 (AfB p i.toNat)) ∧ ∃ n, w' = w.drewN n := by
 obtain ⟨j, rfl⟩ := Int.eq_ofNat_of_zero_le hi.1
 rw [Int.toNat_natCast]
 have := Aky a cap j p w hb (by omega) (by omega)
 rw [hp] at this; exact this
end Go.Proofs.YtmlompedpahkjaaDoor.Kit


namespace Go.Proofs.YtmlompedpahkjaaDoor.Kit
open Go.RowKit
set_option linter.unusedVariables false

/-- Block b holds the cells cs, of type t, none of them frozen. -/
def Arr (w : World) (b : Nat) (t : TypeId) (cs : List Value) : Prop := w.heap[b]? = some (.cells cs.toArray t (0, 0))

section
variable {w : World} {b : Nat} {t : TypeId} {cs : List Value}
theorem Arr.cell (h : Arr w b t cs) (i : Nat) : w.cell? ⟨b, i, none⟩ = cs[i]? := by rw [cell_of_row w b i _ t _ h]; simp
theorem Arr.frozen (h : Arr w b t cs) (i : Nat) : w.frozen? ⟨b, i, none⟩ = false := frozen_of_row _ _ _ _ _ h
theorem Arr.set (h : Arr w b t cs) (i : Nat) (v : Value) : Arr (w.setCell ⟨b, i, none⟩ v) b t (cs.set i v) := by
 unfold Arr; rw [heap_setCell_same _ _ _ _ _ _ h]; simp
theorem Arr.other (h : Arr w b t cs) (a : Addr) (v : Value) (hne : b ≠ a.block) : Arr (w.setCell a v) b t cs := by
 unfold Arr; rw [heap_setCell_other _ _ _ _ hne]; exact h
theorem Arr.keep {w' : World} (h : Arr w b t cs) (k : Au w w') : Arr w' b t cs := by
 unfold Arr at *; rw [Below.block k b (Array.getElem?_eq_some_iff.1 h).1]; exact h
theorem Arr.alloc (h : Arr w b t cs) (o : Obj) : Arr (w.alloc o) b t cs := h.keep ((Au.refl w).alloc o)
theorem Arr.drewN (h : Arr w b t cs) (n : Nat) : Arr (w.drewN n) b t cs := h
theorem Arr.drew (h : Arr w b t cs) : Arr w.drew b t cs := h
theorem Arr.lt (h : Arr w b t cs) : b < w.heap.size := (Array.getElem?_eq_some_iff.1 h).1
theorem Arr.grown {w' : World} {row : Option Nat} (h : Arr w b t cs) (hg : w.grownBy w' row) (hne : some b ≠ row) : Arr w' b t cs := by
 unfold Arr; rw [hg.block b h.lt hne]; exact h
end
theorem Arr.ne {w : World} {b c : Nat} {t u : TypeId} {xs ys : List Value} (h : Arr w b t xs) (k : Arr w c u ys) (hne : t ≠ u) : b ≠ c := by
 rintro rfl
 unfold Arr at h k; rw [h] at k
 simp only [Option.some.injEq, Obj.cells.injEq] at k
 exact hne k.2.1
theorem Arr.new (w : World) (cs : Array Value) (t : TypeId) : Arr (w.alloc (.cells cs t)) w.heap.size t cs.toList := by unfold Arr; rw [heap_alloc_new]
theorem Arr.newAt (w : World) (cs : Array Value) (t : TypeId) (b : Nat) (hb : b = w.heap.size) : Arr (w.alloc (.cells cs t)) b t cs.toList := by subst hb; exact Arr.new w cs t

theorem Arr.five {w : World} {b : Nat} {t : TypeId} {c0 c1 c2 c3 c4 : Value} (h : Arr w b t [c0, c1, c2, c3, c4]) :
  w.cell? ⟨b, 0, none⟩ = some c0 ∧ w.cell? ⟨b, 1, none⟩ = some c1 ∧ w.cell? ⟨b, 2, none⟩ = some c2 ∧ w.cell? ⟨b, 3, none⟩ = some c3 ∧ w.cell? ⟨b, 4, none⟩ = some c4 :=
 ⟨h.cell 0, h.cell 1, h.cell 2, h.cell 3, h.cell 4⟩
end Go.Proofs.YtmlompedpahkjaaDoor.Kit

