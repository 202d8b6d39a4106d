/- A slice of the call's own, wherever it begins in its block: reading it, cutting it, appending to it. No program in sight. -/
import Derived.Test.YtknphdcjopaaoaaMem
import Derived.Deep.AppendSrc
import Derived.Deep.Upon
namespace Go.Proofs.Ytknphdcjopaaoaa
open Go.RowKit
set_option linter.unusedVariables false

/-- The slice value v has n elements of type e (size cells each): the cells xs; its block is the call's own (from base on), not frozen, and so is its spare room. -/
def Seg (w : World) (base : Nat) (e : TypeId) (size : Nat) (v : Value) (n : Nat) (xs : List Value) : Prop :=
  xs.length = n * size ∧
  ((v = .slice none 0 0 ∧ n = 0) ∨
   ∃ g off cap cur, v = .slice (some ⟨g, off, none⟩) n cap ∧ base ≤ g ∧ w.heap[g]? = some (.cells cur e (0, 0)) ∧ n ≤ cap ∧ cap ≤ maxLen ∧ off + cap * size ≤ cur.size ∧ (cur.toList.drop off).take (n * size) = xs)

section
variable {w : World} {base : Nat} {e : TypeId} {size : Nat} {v : Value} {n : Nat} {xs : List Value}

theorem Seg.nil (w : World) (base : Nat) (e : TypeId) (size : Nat) : Seg w base e size (.slice none 0 0) 0 [] := ⟨by simp, .inl ⟨rfl, rfl⟩⟩

theorem Seg.lt (h : Seg w base e size v n xs) : ∀ k, v.ownBlock = some k → base ≤ k ∧ k < w.heap.size := by
  intro k hk
  rcases h.2 with ⟨rfl, _⟩ | ⟨g, off, cap, cur, rfl, hb, hg, _⟩
  · simp [Value.ownBlock] at hk
  · simp [Value.ownBlock] at hk
    subst hk
    exact ⟨hb, (Array.getElem?_eq_some_iff.1 hg).1⟩

theorem Seg.kept {w' : World} {row : Option Nat} (h : Seg w base e size v n xs) (hg : w.grownBy w' row) (hne : v.ownBlock = none ∨ v.ownBlock ≠ row) : Seg w' base e size v n xs := by
  refine ⟨h.1, ?_⟩
  rcases h.2 with hn | ⟨g, off, cap, cur, rfl, hb, hgg, rest⟩
  · exact .inl hn
  · refine .inr ⟨g, off, cap, cur, rfl, hb, ?_, rest⟩
    rw [hg.block g (Array.getElem?_eq_some_iff.1 hgg).1 (by simpa [Value.ownBlock] using hne)]
    exact hgg

theorem Seg.keep {w' : World} (h : Seg w base e size v n xs) (k : Keeps w w') : Seg w' base e size v n xs := by
  refine ⟨h.1, ?_⟩
  rcases h.2 with hn | ⟨g, off, cap, cur, rfl, hb, hgg, rest⟩
  · exact .inl hn
  · refine .inr ⟨g, off, cap, cur, rfl, hb, ?_, rest⟩
    rw [Below.block k g (Array.getElem?_eq_some_iff.1 hgg).1]
    exact hgg

/-- A write into another block. -/
theorem Seg.other {w' : World} (h : Seg w base e size v n xs) {g : Nat} (hb : ∀ k, k < w.heap.size → k ≠ g → w'.heap[k]? = w.heap[k]?) (hne : v.ownBlock ≠ some g) : Seg w' base e size v n xs := by
  refine ⟨h.1, ?_⟩
  rcases h.2 with hn | ⟨k, off, cap, cur, rfl, hbk, hgg, rest⟩
  · exact .inl hn
  · refine .inr ⟨k, off, cap, cur, rfl, hbk, ?_, rest⟩
    rw [hb k (Array.getElem?_eq_some_iff.1 hgg).1 (fun e => hne (by rw [e]; rfl))]
    exact hgg

theorem Seg.alloc (h : Seg w base e size v n xs) (o : Obj) : Seg (w.alloc o) base e size v n xs := h.keep ((Keeps.refl w).alloc o)
theorem Seg.drewN (h : Seg w base e size v n xs) (k : Nat) : Seg (w.drewN k) base e size v n xs := h

theorem Seg.mono {base' : Nat} (h : Seg w base e size v n xs) (hb : base' ≤ base) : Seg w base' e size v n xs := by
  refine ⟨h.1, ?_⟩
  rcases h.2 with hn | ⟨k, off, cap, cur, rfl, hbk, rest⟩
  · exact .inl hn
  · exact .inr ⟨k, off, cap, cur, rfl, by omega, rest⟩

/-- A new block, of which the first n elements are told. -/
theorem Seg.made (w : World) (cur : Array Value) (n cap : Nat) (hb : base ≤ w.heap.size) (hn : n ≤ cap) (hm : cap ≤ maxLen) (hs : cap * size ≤ cur.size) :
    Seg (w.alloc (.cells cur e)) base e size (.slice (some ⟨w.heap.size, 0, none⟩) n cap) n (cur.toList.take (n * size)) := by
  have h1 : n * size ≤ cap * size := Nat.mul_le_mul_right _ hn
  exact ⟨by simp; omega, .inr ⟨w.heap.size, 0, cap, cur, rfl, hb, heap_alloc_new w _, hn, hm, by omega, by simp⟩⟩

theorem Seg.cells (h : Seg w base e size v n xs) {g off cap m : Nat} (hv : v = .slice (some ⟨g, off, none⟩) m cap) : ∀ j u, xs[j]? = some u → w.cell? ⟨g, off + j, none⟩ = some u := by
  intro j u hu
  rcases h.2 with ⟨rfl, _⟩ | ⟨g', off', cap', cur, rfl, _, hgg, _, _, hfit, htake⟩
  · cases hv
  · simp only [Value.slice.injEq, Option.some.injEq, Addr.mk.injEq, and_true] at hv
    obtain ⟨⟨rfl, rfl⟩, _, _⟩ := hv
    rw [cell_of_row w g' _ cur e (0, 0) hgg]
    rw [← htake, List.getElem?_take] at hu
    split at hu
    · rw [List.getElem?_drop] at hu; simpa using hu
    · cases hu

theorem Seg.frozen (h : Seg w base e size v n xs) {g off cap m : Nat} (hv : v = .slice (some ⟨g, off, none⟩) m cap) (j : Nat) : w.frozen? ⟨g, j, none⟩ = false := by
  rcases h.2 with ⟨rfl, _⟩ | ⟨g', off', cap', cur, rfl, _, hgg, _⟩
  · cases hv
  · simp only [Value.slice.injEq, Option.some.injEq, Addr.mk.injEq, and_true] at hv
    obtain ⟨⟨rfl, rfl⟩, _, _⟩ := hv
    exact frozen_of_row _ _ _ _ _ hgg

/-- The shape of the value. -/
theorem Seg.shape (h : Seg w base e size v n xs) : (v = .slice none 0 0 ∧ n = 0 ∧ xs = []) ∨ ∃ g off cap, v = .slice (some ⟨g, off, none⟩) n cap ∧ base ≤ g ∧ g < w.heap.size ∧ n ≤ cap ∧ cap ≤ 9223372036854775807 := by
  rcases h.2 with ⟨rfl, rfl⟩ | ⟨g, off, cap, cur, rfl, hb, hgg, hn, hc, _⟩
  · exact .inl ⟨rfl, rfl, List.eq_nil_of_length_eq_zero (by simpa using h.1)⟩
  · unfold maxLen at hc
    exact .inr ⟨g, off, cap, rfl, hb, (Array.getElem?_eq_some_iff.1 hgg).1, hn, by omega⟩

/-- s[k:]. -/
theorem Seg.drop (h : Seg w base e size v n xs) {g off cap : Nat} (hv : v = .slice (some ⟨g, off, none⟩) n cap) (k : Nat) (hk : k ≤ n) : Seg w base e size (.slice (some ⟨g, off + k * size, none⟩) (n - k) (cap - k)) (n - k) (xs.drop (k * size)) := by
  have hx := h.1
  rcases h.2 with ⟨rfl, _⟩ | ⟨g', off', cap', cur, rfl, hb, hgg, hnc, hcm, hfit, htake⟩
  · cases hv
  · simp only [Value.slice.injEq, Option.some.injEq, Addr.mk.injEq, and_true] at hv
    obtain ⟨⟨rfl, rfl⟩, _, rfl⟩ := hv
    have e1 : cap' * size = (cap' - k) * size + k * size := by rw [← Nat.add_mul]; congr 1; omega
    have e2 : n * size = (n - k) * size + k * size := by rw [← Nat.add_mul]; congr 1; omega
    refine ⟨by rw [List.length_drop]; omega, .inr ⟨g', off' + k * size, cap' - k, cur, rfl, hb, hgg, by omega, by omega, by omega, ?_⟩⟩
    rw [← htake, List.drop_take, List.drop_drop]
    congr 1
    omega

/-- s[:k]. -/
theorem Seg.take (h : Seg w base e size v n xs) {g off cap : Nat} (hv : v = .slice (some ⟨g, off, none⟩) n cap) (k : Nat) (hk : k ≤ n) : Seg w base e size (.slice (some ⟨g, off, none⟩) k cap) k (xs.take (k * size)) := by
  have hx := h.1
  rcases h.2 with ⟨rfl, _⟩ | ⟨g', off', cap', cur, rfl, hb, hgg, hnc, hcm, hfit, htake⟩
  · cases hv
  · simp only [Value.slice.injEq, Option.some.injEq, Addr.mk.injEq, and_true] at hv
    obtain ⟨⟨rfl, rfl⟩, _, rfl⟩ := hv
    have e2 : k * size ≤ n * size := Nat.mul_le_mul_right _ hk
    refine ⟨by rw [List.length_take]; omega, .inr ⟨g', off', cap', cur, rfl, hb, hgg, by omega, by omega, by omega, ?_⟩⟩
    rw [← htake, List.take_take, Nat.min_eq_left e2]
end

/-- Cells laid over a block. -/
theorem heap_setCells_same (g : Nat) (t : TypeId) : ∀ (vs : List Value) (o : Nat) (cs : Array Value) (w : World), w.heap[g]? = some (.cells cs t (0, 0)) → o + vs.length ≤ cs.size →
    ∃ cs' : Array Value, (w.setCells g o vs).heap[g]? = some (.cells cs' t (0, 0)) ∧ cs'.size = cs.size ∧ cs'.toList.take o = cs.toList.take o ∧ (cs'.toList.drop o).take vs.length = vs ∧ cs'.toList.drop (o + vs.length) = cs.toList.drop (o + vs.length) := by
  intro vs
  induction vs with
  | nil => intro o cs w h _; exact ⟨cs, h, rfl, rfl, by simp, rfl⟩
  | cons v r ih =>
    intro o cs w h hfit
    simp only [List.length_cons] at hfit
    obtain ⟨cs', h1, h2, h3, h4, h5⟩ := ih (o + 1) (cs.setIfInBounds o v) (w.setCell ⟨g, o, none⟩ v) (heap_setCell_same _ _ _ _ _ _ h) (by simp; omega)
    simp only [Array.size_setIfInBounds] at h2
    have hl : (cs.setIfInBounds o v).toList = cs.toList.set o v := by simp
    rw [hl] at h3 h5
    have ho : o < cs'.toList.length := by simp; omega
    have hget : cs'.toList[o]? = some v := by
      have e1 : (cs'.toList.take (o + 1))[o]? = cs'.toList[o]? := by rw [List.getElem?_take, if_pos (by omega)]
      rw [← e1, h3, List.getElem?_take, if_pos (by omega), List.getElem?_set]
      simp; omega
    refine ⟨cs', h1, h2, ?_, ?_, ?_⟩
    · have e2 : (cs'.toList.take (o + 1)).take o = cs'.toList.take o := by rw [List.take_take]; congr 1; omega
      rw [← e2, h3, List.take_take, Nat.min_eq_left (by omega), List.take_set_of_le (by omega)]
    · rw [List.drop_eq_getElem_cons ho]
      have e3 : cs'.toList[o] = v := by rw [List.getElem?_eq_getElem ho] at hget; exact Option.some.inj hget
      rw [e3, List.length_cons, List.take_succ_cons, h4]
    · rw [List.length_cons, show o + (r.length + 1) = o + 1 + r.length from by omega, h5, List.drop_set_of_lt (by omega)]

section
variable {P : Program} (w : World)

theorem run_append_seg (base : Nat) (t tx ty e : TypeId) (z : Value) (size bytes : Nat) (ht : P.underlying t = some (.slice e))
    (hinfo : (P.info? e).map (fun i => (i.zero, i.size, i.bytes)) = some (some z, size, bytes)) (hzs : z.cells.size = size)
    (v : Value) (n : Nat) (xs : List Value) (hown : Seg w base e size v n xs) (x : Value) (m : Nat) (news : List Value) (hsrc : Src P size tx x m news w)
    (h63 : n + m ≤ maxLen) (hbytes : (n + m) * bytes ≤ 140737488355328) (hbase : base ≤ w.heap.size) :
    ∃ v' w', (Builtin.append_ #[t, tx] ty #[v, x]).run P w = .ok v' w' ∧ Seg w' base e size v' (n + m) (xs ++ news) ∧ w.grownBy w' v.ownBlock ∧
      (v'.ownBlock = v.ownBlock ∨ v'.ownBlock = some w.heap.size) := by
  obtain ⟨i, hi, hzz⟩ := Option.map_eq_some_iff.1 hinfo
  simp only [Prod.mk.injEq] at hzz
  obtain ⟨hz, rfl, rfl⟩ := hzz
  have hlen : (xs ++ news).length = (n + m) * i.size := by rw [List.length_append, hown.1, hsrc.newsLen, Nat.add_mul]
  have hsmall : ((n + m : Nat) : Int) ≤ 9223372036854775807 := by simp only [maxLen] at h63; omega
  have grow : ∀ (b : Option Addr) (cap : Nat), cap < n + m → (Builtin.firstCells i.size n (.slice b n cap)).run P w.drew = .ok xs.toArray w.drew → v = .slice b n cap →
      ∃ v' w', (Builtin.append_ #[t, tx] ty #[v, x]).run P w = .ok v' w' ∧ Seg w' base e i.size v' (n + m) (xs ++ news) ∧ w.grownBy w' v.ownBlock ∧ (v'.ownBlock = v.ownBlock ∨ v'.ownBlock = some w.heap.size) := by
    rintro b cap hc hold rfl
    have hr := run_append_grow_src (P := P) w t tx ty e i z ht hi hz b n cap xs hold x m news hsrc hc hsmall (growslice_fits hc hbytes)
    refine ⟨_, _, hr, ?_, ⟨rfl, rfl, rfl, by simp, fun k hk _ => Below.heap_alloc w.drew _ k hk⟩, .inr rfl⟩
    · have hge := grownCap_ge w (n + m) cap e
      have hcm := grownCap_le_maxLen w (n + m) cap e h63
      have hs : grownCap w (n + m) cap e * i.size ≤ ((xs ++ news).toArray ++ Builtin.zeroCells z.cells (grownCap w (n + m) cap e - (n + m))).size := by
        simp only [Array.size_append, List.size_toArray, size_zeroCells, hzs, hlen, ← Nat.add_mul]
        rw [show n + m + (grownCap w (n + m) cap e - (n + m)) = grownCap w (n + m) cap e from by omega]
        exact Nat.le_refl _
      have h1 := Seg.made (base := base) (e := e) (size := i.size) w.drew _ (n + m) _ hbase hge hcm hs
      have h2 : ((xs ++ news).toArray ++ Builtin.zeroCells z.cells (grownCap w (n + m) cap e - (n + m))).toList.take ((n + m) * i.size) = xs ++ news := by
        rw [Array.toList_append, ← hlen]; exact List.take_left
      rw [h2] at h1
      exact h1
  rcases hown.2 with ⟨rfl, rfl⟩ | ⟨g, off, cap, cur, rfl, hbg, hg, hnc, hcm, hcs, htake⟩
  · have hx : xs = [] := List.eq_nil_of_length_eq_zero (by simpa using hown.1)
    subst hx
    by_cases hm : m = 0
    · subst hm
      have hn : news = [] := List.eq_nil_of_length_eq_zero (by simpa using hsrc.newsLen)
      subst hn
      have hfc := hsrc.cells
      refine ⟨.slice none 0 0, w, ?_, Seg.nil w base e i.size, ⟨rfl, rfl, rfl, Nat.le_refl _, fun _ _ _ => rfl⟩, .inl rfl⟩
      rcases hsrc.kind with ⟨e', hk⟩ | hk <;> simp [Builtin.append_, run_underlying ht, run_underlying hk, sizeOf, typeInfo, hi, hsrc.len, hfc]
    · exact grow none 0 (by omega) (run_firstCells_none w.drew i.size 0 0 0) rfl
  · by_cases hroom : n + m ≤ cap
    · have hle : (n + m) * i.size ≤ cap * i.size := Nat.mul_le_mul_right _ hroom
      have hnl := hsrc.newsLen
      have hsplit : (n + m) * i.size = n * i.size + m * i.size := Nat.add_mul ..
      have hc : ∀ j, j < news.length → (w.cell? ⟨g, off + n * i.size + j, none⟩).isSome = true := fun j hj => by
        rw [cell_of_row w g _ cur e (0, 0) hg, Array.getElem?_eq_getElem (by omega)]; rfl
      have hf : ∀ j, j < news.length → w.frozen? ⟨g, off + n * i.size + j, none⟩ = false := fun j _ => frozen_of_row _ _ _ _ _ hg
      have hr := run_append_room_src (P := P) w t tx ty e i ht hi g off n cap x m news hsrc hroom hc hf
      obtain ⟨cs', h1, h2, h3, h4, h5⟩ := heap_setCells_same g e news (off + n * i.size) cur w hg (by omega)
      refine ⟨_, _, hr, ⟨hlen, .inr ⟨g, off, cap, cs', rfl, hbg, h1, hroom, hcm, by omega, ?_⟩⟩, ?_, .inl rfl⟩
      · have e1 : cs'.toList.drop off = (cs'.toList.take (off + n * i.size)).drop off ++ cs'.toList.drop (off + n * i.size) := by
          rw [List.drop_take, show off + n * i.size - off = n * i.size from by omega]
          have e2 : cs'.toList.drop (off + n * i.size) = (cs'.toList.drop off).drop (n * i.size) := by rw [List.drop_drop]
          rw [e2, List.take_append_drop]
        have e3 : (cur.toList.take (off + n * i.size)).drop off = xs := by
          rw [List.drop_take, show off + n * i.size - off = n * i.size from by omega]; exact htake
        rw [e1, h3, e3, hsplit, List.take_append, hown.1, List.take_of_length_le (by rw [hown.1]; omega), show n * i.size + m * i.size - n * i.size = news.length from by omega, h4]
      · have hgl := (Array.getElem?_eq_some_iff.1 hg).1
        refine ⟨World.os_setCells .., ?_, World.output_setCells .., ?_, fun k hk hne => World.heap_setCells_other w g _ _ hk (fun e => hne (by rw [e]; rfl))⟩
        · clear hr h1 hsrc hnl hc hf h4 h5 h3 hlen
          suffices h : ∀ (vs : List Value) (o : Nat) (w : World), (w.setCells g o vs).tape = w.tape from h _ _ _
          intro vs
          induction vs with
          | nil => intro o w; rfl
          | cons v r ih => intro o w; exact (ih _ _).trans rfl
        · clear hr h1 hsrc hnl hc hf h4 h5 h3 hlen
          suffices h : ∀ (vs : List Value) (o : Nat) (w : World), w.heap.size ≤ (w.setCells g o vs).heap.size from h _ _ _
          intro vs
          induction vs with
          | nil => intro o w; exact Nat.le_refl _
          | cons v r ih => intro o w; exact Nat.le_trans (by simp [World.setCell]) (ih _ _)
    · refine grow (some ⟨g, off, none⟩) cap (by omega) (run_firstCells_some w.drew i.size n ⟨g, off, none⟩ n cap xs hown.1 ?_) rfl
      intro j u hu
      rw [show (⟨g, off, none⟩ : Addr).add j = ⟨g, off + j, none⟩ from by simp [Addr.add]]
      exact hown.cells rfl j u hu

theorem wpList_append_seg {ops : Array Oper} {rest : List Oper} {o : Oper} {a : Act} {Q : Exit → Act → World → Prop} (hgd : o.guard = none) (s x : Operand) (t tx : TypeId)
    (ho : o.op = .call { callee := .builtin .append, args := #[s, x], argTypes := #[t, tx] })
    (base : Nat) (e : TypeId) (z : Value) (size bytes : Nat) (ht : P.underlying t = some (.slice e))
    (hinfo : (P.info? e).map (fun i => (i.zero, i.size, i.bytes)) = some (some z, size, bytes)) (hzs : z.cells.size = size)
    (v : Value) (n : Nat) (xs : List Value) (hs : a.eval s = v) (hown : Seg w base e size v n xs)
    (vx : Value) (m : Nat) (news : List Value) (hx : a.eval x = vx) (hsrc : Src P size tx vx m news w)
    (h63 : n + m ≤ maxLen) (hbytes : (n + m) * bytes ≤ 140737488355328) (hbase : base ≤ w.heap.size)
    (h : ∀ v' w', Seg w' base e size v' (n + m) (xs ++ news) → w.grownBy w' v.ownBlock → (v'.ownBlock = v.ownBlock ∨ v'.ownBlock = some w.heap.size) → wpList P ops Q rest (a.put o.dst v') w') : wpList P ops Q (o :: rest) a w :=
  wpList_plain hgd fun K hK => by
    obtain ⟨v', w', hr, h2, h3, h4⟩ := run_append_seg (P := P) w base t tx o.type e z size bytes ht hinfo hzs v n xs hown vx m news hsrc h63 hbytes hbase
    unfold Oper.wp execOp
    simp only [ho, resolve, invoke, builtin, Sem.run_bind, Sem.run_pure, Result.andThen_ok, List.map_toArray, List.map_cons, List.map_nil, hs, hx, hr]
    exact hK _ _ (h v' w' h2 h3 h4)

/-- Bytes that are read, as a source. -/
theorem Bs.srcOf {w : World} {a : Option Addr} {l : List UInt8} (h : Bs w a l) {tx e' : TypeId} (hk : P.underlying tx = some (.slice e')) (c : Nat) (hn : a = none → c = c) : Src P 1 tx (.slice a l.length c) l.length (bv l) w := by
  cases a with
  | some ad =>
    refine Src.ofSlice w hk ad _ c (bv l) (by simp) (fun j u hu => ?_) (bv_cell1 l)
    by_cases hp : 0 < (bv l).length
    · obtain ⟨ad', e1, h1⟩ := h.src hp
      cases e1; exact h1 j u hu
    · rw [List.getElem?_eq_none (by omega)] at hu; cases hu
  | none =>
    have hl : l = [] := by
      cases l with
      | nil => rfl
      | cons x l => obtain ⟨b, off, e, _⟩ := h 0 (by simp); cases e
    subst hl
    exact Src.ofNil w hk c
end

end Go.Proofs.Ytknphdcjopaaoaa
