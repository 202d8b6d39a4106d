/- strings.Builder's String: the bytes as a string; its row is given away. -/
import Derived.Test.YtijidndhlgbjhaaDoorVbBld
import Derived.Shelf.RegionOpenPlain
import Derived.Shelf.Lay
namespace Go.Proofs.YtijidndhlgbjhaaDoor
open Go.RowKit
variable [Globs]
set_option linter.unusedSectionVars false
set_option linter.unusedVariables false

theorem str_empty : (ByteArray.empty) = str [] := rfl
set_option maxHeartbeats 4000000 in
set_option maxRecDepth 100000 in
theorem bstring_run {b o : Nat} {w W : World} {v : Value} {n : Nat} {ad q : Option Addr} {cap : Nat} {s : ByteArray} {w1 w2 : World} (hv : v = .slice ad n cap) (c1 : w.cell? ⟨b, o + 1, none⟩ = some v)
    (hSD : (Builtin.unsafeSliceData_ #[23] 187 #[v]).run Tryd.prog w.drew = .ok (.pointer q) w1) (c2 : w1.cell? ⟨b, o + 1, none⟩ = some v)
    (hUS : (Builtin.unsafeString_ #[187, 3] 9 #[.pointer q, .int .i64 n]).run Tryd.prog w1 = .ok (.string s) w2) :
    Calls Tryd.prog 59 #[.pointer (some ⟨b, o, none⟩)] w fun e w' => e = .returned (.string s) ∧ w' = w2 := by
  subst hv
  have c1' : w.drew.cell? ⟨b, o + 1, none⟩ = some (.slice ad n cap) := c1
  have mixed : Tryd.prog.follows .mixedOrders = true := by kernel_rfl
  go_enter Tryd.func59, Tryd.ntmps59
  go_wp2
  go_region_o
  all_goals (go_wp2; go_ret; exact ⟨rfl, rfl⟩)

/-- A row of bytes that is given away to a string. -/
theorem Sim.die {β : Nat → Nat → Option (Nat × Nat)} {H : List Ob} {F : Nat → Prop} {w w' : World} (hs : Sim ⟨β, H, F⟩ w) {j : Nat} {o : Ob} (ho : H[j]? = some o) (hl : o.live = true)
    (h1 : w'.os = w.os) (h2 : w'.tape = w.tape) (h3 : w'.output = w.output) (hz : w.heap.size ≤ w'.heap.size) (hsh : ∀ b, b < w.heap.size → w'.shape? b = w.shape? b)
    (hb : ∀ b, b < w.heap.size → (∀ off, β j o.ver ≠ some (b, off)) → w'.heap[b]? = w.heap[b]?) : Sim ⟨β, H.set j (.gone o.ver), F⟩ w' ∧ Later ⟨β, H, F⟩ w ⟨β, H.set j (.gone o.ver), F⟩ w' :=
  hs.turnG ho hl (Nat.le_refl _) (fun _ _ _ => rfl) (fun b off e => .inl ⟨off, e⟩) h1 h2 h3 hz hsh hb fun _ => trivial

theorem shape_freeze (w : World) (a : Addr) (n b : Nat) : (w.freeze a n).shape? b = w.shape? b := by
  unfold World.freeze
  split
  · rfl
  · simp only [World.shape?, Array.getElem?_modify]
    by_cases hb : a.block = b
    · rw [if_pos hb]
      cases hh : w.heap[b]? with
      | none => simp
      | some x => cases x <;> simp
    · rw [if_neg hb]
theorem heap_freeze (w : World) (a : Addr) (n b : Nat) (h : b ≠ a.block) : (w.freeze a n).heap[b]? = w.heap[b]? := by
  unfold World.freeze
  split
  · rfl
  · simp only [Array.getElem?_modify]
    rw [if_neg (fun e => h e.symm)]
theorem size_freeze (w : World) (a : Addr) (n : Nat) : (w.freeze a n).heap.size = w.heap.size := by
  unfold World.freeze
  split <;> simp
theorem os_freeze (w : World) (a : Addr) (n : Nat) : (w.freeze a n).os = w.os ∧ (w.freeze a n).tape = w.tape ∧ (w.freeze a n).output = w.output := by
  unfold World.freeze
  split <;> exact ⟨rfl, rfl, rfl⟩

set_option maxRecDepth 100000 in
theorem cellsByte : Tryd.prog.cellsOf 5 = 1 := by kernel_rfl

set_option maxRecDepth 100000 in
/-- The string of a builder that has been used. -/
theorem stringV {id ver j v cp : Nat} {p : List (Nat × Nat)} {x a : TV} {l : List UInt8} {H : List Ob} {K : TV → List Ob → Prop} (ho : H[id]? = some (.obj ver x)) (hg : getP p x = some (.agg [a, .os 1 j v [] 0 l.length cp])) (ha : width a = 1)
    (hj : H[j]? = some (.bld v 5 l)) (h63 : l.length ≤ 9223372036854775807) (hk : K (.val (.string (str l))) (H.set j (.gone v))) : VCalls Tryd.prog 59 [.op id ver p] H K := by
  intro β F w vs hs hv
  obtain ⟨g1, b, o, hb, rfl⟩ := arg_op hv
  obtain ⟨u', v', r1, r2, c0, c1⟩ := bld_cells hs ho hb hg ha rfl
  have hjl : j < H.length := (List.getElem?_eq_some_iff.1 hj).1
  rw [RepC] at r2
  obtain ⟨g2, r2⟩ := r2
  have ea : ([Value.pointer (some ⟨b, o + span p, none⟩)]).toArray = #[.pointer (some ⟨b, o + span p, none⟩)] := rfl
  rw [ea]
  -- what is empty
  have emp : ∀ {ad q : Option Addr} {cap : Nat} {w1 : World}, v' = .slice ad 0 cap → l = [] → (Builtin.unsafeSliceData_ #[23] 187 #[v']).run Tryd.prog w.drew = .ok (.pointer q) w1 → w1.cell? ⟨b, o + span p + 1, none⟩ = some v' → Sim ⟨β, H, F⟩ w1 → Later ⟨β, H, F⟩ w ⟨β, H, F⟩ w1 →
      Calls Tryd.prog 59 #[.pointer (some ⟨b, o + span p, none⟩)] w fun e w' => ∃ v x β' H' F', e = .returned v ∧ K x H' ∧ Sim ⟨β', H', F'⟩ w' ∧ Later ⟨β, H, F⟩ w ⟨β', H', F'⟩ w' ∧ Rep ⟨β', H', F'⟩ w' x v := by
    intro ad q cap w1 hv' hl hSD c2 hs1 hl1
    have hUS := Lib.run_unsafeString_none (P := Tryd.prog) w1 187 3 9 q
    refine (bstring_run (W := w) (n := 0) hv' c1 hSD c2 hUS).mono ?_
    rintro e w' ⟨rfl, rfl⟩
    obtain ⟨k1, k2⟩ := hs1.die (w' := w') hj rfl rfl rfl rfl (Nat.le_refl _) (fun _ _ => rfl) (fun _ _ _ => rfl)
    subst hl
    exact ⟨_, _, β, _, F, rfl, hk, k1, hl1.trans k2, Rep.of_val⟩
  rcases r2 with ⟨hl0, ad, hv', _, han⟩ | ⟨b2, o2, cap, t, m, hb2, hv', hn, hcap, hsh, hroom, _⟩
  · have hl : l = [] := List.length_eq_zero_iff.1 hl0
    have hv' : v' = .slice ad 0 0 := by simpa using hv'
    cases ad with
    | none =>
      refine emp hv' hl (q := none) (w1 := w.drew) ?_ c1 (hs.heap rfl) (Later.heap rfl rfl rfl rfl)
      rw [hv']; exact Lib.run_unsafeSliceData_nil w.drew _ _ _ _
    | some ad =>
      obtain ⟨s, hs2⟩ := Option.isSome_iff_exists.1 (han ad rfl)
      obtain ⟨k1, k2⟩ := (hs.heap (w' := w.drew) rfl).extra (.view ad 5)
      refine emp hv' hl (q := some ⟨w.drew.heap.size, 0, none⟩) (w1 := w.drew.alloc (.view ad 5)) ?_ ?_ k1 ((Later.heap (w := w) (w' := w.drew) rfl rfl rfl rfl).trans k2)
      · rw [hv']; exact Lib.run_unsafeSliceData_zero w.drew _ _ _ Tryd.underlying187 ad 0 s hs2
      · rw [World.cell?_of_block (w := w.drew) (alloc_old _ _ (World.block_lt_of_cell? w _ c1))]; exact c1
  · have hv' : v' = .slice (some ⟨b2, o2, none⟩) l.length cap := by simpa [span] using hv'
    rcases hs.ob j _ hj with ⟨q1, _⟩ | ⟨b3, post, fr, q1, q2, q3⟩
    · have q1' : β j v = none := q1
      have hb2' : β j v = some (b2, o2) := hb2
      rw [q1'] at hb2'; cases hb2'
    have q1' : β j v = some (b3, 0) := q1
    have hb2' : β j v = some (b2, o2) := hb2
    rw [q1'] at hb2'; cases hb2'
    by_cases hl : l = []
    · subst hl
      by_cases hc0 : cap = 0
      · subst hc0
        obtain ⟨k1, k2⟩ := (hs.heap (w' := w.drew) rfl).extra (.view ⟨b2, 0, none⟩ 5)
        refine emp hv' rfl (q := some ⟨w.drew.heap.size, 0, none⟩) (w1 := w.drew.alloc (.view ⟨b2, 0, none⟩ 5)) ?_ ?_ k1 ((Later.heap (w := w) (w' := w.drew) rfl rfl rfl rfl).trans k2)
        · rw [hv']; exact Lib.run_unsafeSliceData_zero w.drew _ _ _ Tryd.underlying187 ⟨b2, 0, none⟩ 0 _ hsh
        · rw [World.cell?_of_block (w := w.drew) (alloc_old _ _ (World.block_lt_of_cell? w _ c1))]; exact c1
      · refine emp hv' rfl (q := some ⟨b2, 0, none⟩) (w1 := w.drew) ?_ c1 (hs.heap rfl) (Later.heap rfl rfl rfl rfl)
        rw [hv']; exact Lib.run_unsafeSliceData_row w.drew _ _ _ _ _ hc0
    · have hlp : 0 < l.length := List.length_pos_iff.2 hl
      have hSD : (Builtin.unsafeSliceData_ #[23] 187 #[v']).run Tryd.prog w.drew = .ok (.pointer (some ⟨b2, 0, none⟩)) w.drew := by
        rw [hv']; exact Lib.run_unsafeSliceData_row w.drew _ _ _ _ _ (by omega)
      have hsh' : w.drew.shape? b2 = some (5, ((l.map fun x : UInt8 => Value.int .u8 x.toNat) ++ post).length) := by
        have q2' : w.drew.heap[b2]? = _ := q2
        simp only [World.shape?, q2', List.size_toArray]
      have hcell : ∀ i y, l[i]? = some y → w.drew.cell? ((⟨b2, 0, none⟩ : Addr).add i) = some (.int .u8 y.toNat) := by
        intro i y hy
        rw [addr_add, Nat.zero_add]
        have q2' : w.drew.heap[b2]? = _ := q2
        rw [cell_of_row w.drew b2 i _ _ _ q2']
        have hil : i < l.length := (List.getElem?_eq_some_iff.1 hy).1
        simp only [List.getElem?_toArray]
        rw [List.getElem?_append_left (by simpa using hil), List.getElem?_map, hy]; rfl
      have hUS := Lib.run_unsafeString_row (P := Tryd.prog) w.drew 187 3 9 5 Tryd.underlying187 cellsByte b2 _ hsh' l hl (by simp) h63 hcell
      refine (bstring_run (W := w) hv' c1 hSD c1 hUS).mono ?_
      rintro e w' ⟨rfl, rfl⟩
      obtain ⟨f1, f2, f3⟩ := os_freeze w.drew ⟨b2, 0, none⟩ l.length
      obtain ⟨k1, k2⟩ := hs.die (w' := w.drew.freeze ⟨b2, 0, none⟩ l.length) hj rfl f1 f2 f3 (by rw [size_freeze]; exact Nat.le_refl _) (fun b _ => shape_freeze w.drew _ _ b) (fun b _ hne => heap_freeze w.drew _ _ b fun e => hne 0 (by rw [e]; exact q1'))
      exact ⟨_, _, β, _, F, rfl, hk, k1, k2, Rep.of_val⟩
theorem bstr_is : BStr Tryd.prog 59 := fun id ver j v cp p x a l H K ho hg ha hj h63 hk => stringV ho hg ha hj h63 hk
end Go.Proofs.YtijidndhlgbjhaaDoor
