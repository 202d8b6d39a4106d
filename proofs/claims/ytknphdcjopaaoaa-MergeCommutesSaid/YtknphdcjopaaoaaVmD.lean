/- The elements of a slice, whoever owns it; a row that grows. -/
import Derived.Test.YtknphdcjopaaoaaVmC
import Derived.Deep.AppendSrc
import Derived.Laws.IdiomStrings
import Derived.Laws.BytesArg
namespace Go.Proofs.Ytknphdcjopaaoaa
open Go.RowKit
set_option linter.unusedVariables false
set_option autoImplicit false

/-- A byte; bytes as a string; a string's bytes. -/
abbrev by8 (b : UInt8) : TV := .val (.int .u8 (b.toNat : Int))
def str (l : List UInt8) : ByteArray := ⟨l.toArray⟩
def bl (s : ByteArray) : List UInt8 := s.data.toList
@[simp] theorem bl_str (l : List UInt8) : bl (str l) = l := rfl
@[simp] theorem str_bl (s : ByteArray) : str (bl s) = s := rfl

/-- The elements, of k cells each. -/
def elemsV (k : Nat) : Value → Option (List TV)
  | .slice a n c => if n = 0 ∧ a.isNone ∧ c = 0 then some [] else none
  | _ => none
def elemsOf (H : List Ob) (k : Nat) : TV → Option (List TV)
  | .val v => elemsV k v
  | .sl k' cs => if k' = k then some cs else none
  | .os k' id ver p off n cp => if k' = k then (match H[id]? with
    | some (.obj v x) => if v = ver then elemsAt p k off n x else none
    | _ => none) else none
  | _ => none

/-- What a slice gives to be read. -/
inductive Reads (w : World) (us : List Value) (n k : Nat) : Value → Prop
  | mem (b off cap : Nat) (hc : CellsAt w b off us) (hl : us.length = n * k) (hn : n ≤ cap) (hcap : cap ≤ 9223372036854775807) : Reads w us n k (.slice (some ⟨b, off, none⟩) n cap)
  | none (a : Option Addr) (cap : Nat) (hn : n = 0) (hu : us = []) (hcap : cap ≤ 9223372036854775807) : Reads w us n k (.slice a 0 cap)

theorem repCs_bytes {c : Ctx} {w : World} : ∀ (l : List UInt8), RepCs c w (l.map by8) (l.map fun b => Value.int .u8 b.toNat)
  | [] => by rw [List.map_nil, RepCs]; rfl
  | b :: l => by rw [List.map_cons, RepCs]; exact ⟨[.int .u8 b.toNat], _, rfl, by rw [RepC]; exact ⟨rfl, rfl⟩, repCs_bytes l⟩

theorem elemsOf_spec {c : Ctx} {w : World} (hs : Sim c w) {k : Nat} {x : TV} {v : Value} {cs : List TV} (hr : Rep c w x v) (he : elemsOf c.H k x = some cs) :
    (∀ y ∈ cs, width y = k) ∧ ∃ us, RepCs c.bare w cs us ∧ Reads w us cs.length k v := by
  cases x with
  | val u =>
    rw [Rep.val] at hr; subst hr
    rw [elemsOf] at he
    cases v with
    | slice a n cap =>
      simp only [elemsV] at he
      split at he
      · rename_i h
        obtain ⟨rfl, h2, rfl⟩ := h
        cases he
        exact ⟨by simp, [], by rw [RepCs], .none a 0 rfl rfl (by omega)⟩
      · cases he
    | _ => simp [elemsV] at he
  | sl k' ds =>
    simp only [elemsOf] at he
    split at he
    · rename_i hk; subst hk; cases he
      have hr' : ∃ us, RepC c w (.sl k' cs) us ∧ v = mkV (.sl k' cs) us := by
        rcases hr with (h | h | h) | ⟨_, _, h, _⟩
        · cases h
        · cases h
        · exact h
        · cases h
      obtain ⟨us, h, rfl⟩ := hr'
      rw [RepC] at h
      obtain ⟨h1, h2⟩ := h
      refine ⟨h1, ?_⟩
      rcases h2 with ⟨rfl, a, cap, rfl, hc⟩ | ⟨b, off, cap, vs, rfl, h3, h4, h5, h6, h7⟩
      · exact ⟨[], by rw [RepCs], .none a cap rfl rfl hc⟩
      · exact ⟨vs, h6, .mem b off cap h7 (by rw [h6.length, widths_all h1]) h3 h4⟩
    · cases he
  | os k' id ver p off n cp =>
    simp only [elemsOf] at he
    split at he
    · rename_i hk; subst hk
      split at he
      · rename_i ver' x hid
        split at he
        · rename_i e; subst e
          have hr' : ∃ us, RepC c w (.os k' id ver' p off n cp) us ∧ v = mkV (.os k' id ver' p off n cp) us := by
            rcases hr with (h | h | h) | ⟨_, _, h, _⟩
            · cases h
            · cases h
            · exact h
            · cases h
          obtain ⟨us, h, rfl⟩ := hr'
          rw [RepC] at h
          obtain ⟨_, h2⟩ := h
          rcases h2 with ⟨rfl, a0, rfl, _⟩ | ⟨b0, o0, cap, t0, m0, hb, rfl, hr4, hr5, hr6, hr7⟩
          · have : cs = [] := by
              unfold elemsAt at he
              split at he
              · split at he
                · cases he; simp
                · cases he
              · cases he
            subst this
            exact ⟨by simp, [], by rw [RepCs], .none a0 0 rfl rfl (by omega)⟩
          rcases hs.ob id _ hid with ⟨h0, _⟩ | ⟨b, off', pre, vs, post, t, fr, h0, h1, h2, h3, h4⟩
          · rw [h0] at hb; cases hb
          rw [h0] at hb
          obtain ⟨rfl, rfl⟩ : b = b0 ∧ off' = o0 := by simpa using hb
          obtain ⟨a, m, q, rfl, k1, k2, k3, k4⟩ := elemsAt_spec h4 he
          refine ⟨k3, m, k2, ?_⟩
          rw [← k4] at hr4
          have e : off' + span p + off * k' = pre.length + a.length := by rw [h3, k1]; omega
          show Reads w m cs.length k' (.slice (some ⟨b, off' + span p + off * k', none⟩) n cap)
          rw [← k4, e]
          exact .mem b _ cap (cells_mid h1) (by rw [k2.length, widths_all k3]) hr4 hr5
        · cases he
      · cases he
    · cases he
  | _ => simp [elemsOf] at he

theorem addr_add (b off j : Nat) : (⟨b, off, none⟩ : Addr).add j = ⟨b, off + j, none⟩ := Addr.add_mid b off j

theorem Reads.src {P : Program} {w : World} {us : List Value} {n k : Nat} {v : Value} (h : Reads w us n k v) (h1 : ∀ u ∈ us, u.oneCell' = true) {tx e : TypeId}
    (ht : P.underlying tx = some (.slice e)) : Src P k tx v n us w := by
  cases h with
  | mem b off cap hc hl hn hcap =>
    exact Src.ofSlice w ht _ n cap us hl (fun j u hj => by rw [addr_add]; exact hc j u hj) h1
  | none a cap hn hu hcap =>
    subst hu; subst hn
    cases a with
    | none => exact Src.ofNil w ht cap
    | some ad => exact Src.ofSlice w ht ad 0 cap [] (by simp) (by simp) (by simp)

theorem room_split {α : Type} (l : List α) (n m : Nat) (h : n + m ≤ l.length) : l = l.take n ++ ((l.drop n).take m ++ (l.drop n).drop m) := by
  rw [List.take_append_drop, List.take_append_drop]

theorem run_append_empty {P : Program} {w : World} {t tx ty e : TypeId} {i : TypeInfo} (ht : P.underlying t = some (.slice e)) (hi : P.info? e = some i) {a : Option Addr} {x : Value} (hsrc : Src P i.size tx x 0 [] w) :
    (Builtin.append_ #[t, tx] ty #[.slice a 0 0, x]).run P w = .ok (.slice a 0 0) w := by
  have hfc := hsrc.cells
  rcases hsrc.kind with ⟨e', hk⟩ | hk <;> cases a <;> simp [Builtin.append_, run_underlying ht, run_underlying hk, sizeOf, typeInfo, hi, hsrc.len, hfc, storeCells]

/-- More elements behind a row of one's own. -/
theorem Sim.append {P : Program} {β : Nat → Nat → Option (Nat × Nat)} {H : List Ob} {F : Nat → Prop} {w : World} (hs : Sim ⟨β, H, F⟩ w) {id ver off n cp N k : Nat} {cs : List TV} (ho : H[id]? = some (.obj ver (.arr N k cs))) (hn : off + n ≤ cs.length)
    {v : Value} (hv : RepC ⟨β, H, F⟩ w (.os k id ver [] off n cp) [v]) {t tx ty e : TypeId} {i : TypeInfo} {z : Value} (ht : P.underlying t = some (.slice e)) (hi : P.info? e = some i) (hz : i.zero = some z) (hzs : z.cells.size = i.size) (hk : i.size = k)
    {x : Value} {ys : List TV} {us : List Value} (hy : RepCs (Ctx.bare ⟨β, H, F⟩) w ys us) (hyk : ∀ y ∈ ys, width y = k) (hsrc : Src P k tx x ys.length us w) (hbytes : (n + ys.length) * i.bytes ≤ 140737488355328) (h63 : n + ys.length ≤ 9223372036854775807) :
    ∃ v' w' β', (Builtin.append_ #[t, tx] ty #[v, x]).run P w = .ok v' w' ∧ Sim ⟨β', H.set id (.obj (ver + 1) (.arr (n + ys.length) k ((cs.drop off).take n ++ ys))), F⟩ w' ∧
      Later ⟨β, H, F⟩ w ⟨β', H.set id (.obj (ver + 1) (.arr (n + ys.length) k ((cs.drop off).take n ++ ys))), F⟩ w' ∧
      RepC ⟨β', H.set id (.obj (ver + 1) (.arr (n + ys.length) k ((cs.drop off).take n ++ ys))), F⟩ w' (.os k id (ver + 1) [] 0 (n + ys.length) (n + ys.length)) [v'] ∧ (∀ b o, β' id (ver + 1) = some (b, o) → (o = 0 ∧ ∃ m, w'.shape? b = some (e, m)) ∨ (off = 0 → β id ver = some (b, o))) := by
  subst hk
  have hid : id < H.length := (List.getElem?_eq_some_iff.1 ho).1
  have hone : ∀ u ∈ us, u.oneCell' = true := hy.one
  have hlen : ((cs.drop off).take n ++ ys).length = n + ys.length := by rw [List.length_append, List.length_take, List.length_drop]; omega
  have hul : us.length = ys.length * i.size := by rw [hy.length, widths_all hyk]
  have hob := hs.ob id _ ho
  -- the old elements, as the object has them
  have hwid : ∀ y ∈ cs, width y = i.size := by
    rcases hob with ⟨_, h4⟩ | ⟨_, _, _, _, _, _, _, _, _, _, _, h4⟩ <;> rw [RepC] at h4 <;> exact h4.2.1
  have hwid' : ∀ y ∈ (cs.drop off).take n ++ ys, width y = i.size := by
    intro y hy'
    rcases List.mem_append.1 hy' with h | h
    · exact hwid y (List.mem_of_mem_drop (List.mem_of_mem_take h))
    · exact hyk y h
  have hβo : ∀ p, ∀ i' v', ¬ (i' = id ∧ (Ob.obj ver (.arr N i.size cs)).ver < v') → upd β id (ver + 1) p i' v' = β i' v' := fun p i' v' h => upd_other (by rintro ⟨rfl, rfl⟩; exact h ⟨rfl, Nat.lt_succ_self _⟩)
  have hgo : ∀ p, upd β id (ver + 1) p id (Ob.obj (ver + 1) (.arr (n + ys.length) i.size ((cs.drop off).take n ++ ys))).ver = p := fun p => upd_same
  have hhas : ∀ β', Ctx.has ⟨β', H.set id (.obj (ver + 1) (.arr (n + ys.length) i.size ((cs.drop off).take n ++ ys))), F⟩ id (ver + 1) := fun β' => ⟨.obj (ver + 1) (.arr (n + ys.length) i.size ((cs.drop off).take n ++ ys)), by simp [hid], Nat.le_refl _⟩
  -- the way that lays a new row
  have grow : ∀ (a : Option Addr) (cap : Nat) (olds : List Value), v = .slice a n cap → cap < n + ys.length → (Builtin.firstCells i.size n (.slice a n cap)).run P w.drew = .ok olds.toArray w.drew → RepCs (Ctx.bare ⟨β, H, F⟩).lent w ((cs.drop off).take n) olds →
      RepCs (Ctx.bare ⟨β, H, F⟩) w ((cs.drop off).take n) olds → ∃ v' w' β', (Builtin.append_ #[t, tx] ty #[v, x]).run P w = .ok v' w' ∧ Sim ⟨β', H.set id (.obj (ver + 1) (.arr (n + ys.length) i.size ((cs.drop off).take n ++ ys))), F⟩ w' ∧
      Later ⟨β, H, F⟩ w ⟨β', H.set id (.obj (ver + 1) (.arr (n + ys.length) i.size ((cs.drop off).take n ++ ys))), F⟩ w' ∧
      RepC ⟨β', H.set id (.obj (ver + 1) (.arr (n + ys.length) i.size ((cs.drop off).take n ++ ys))), F⟩ w' (.os i.size id (ver + 1) [] 0 (n + ys.length) (n + ys.length)) [v'] ∧ (∀ b o, β' id (ver + 1) = some (b, o) → (o = 0 ∧ ∃ m, w'.shape? b = some (e, m)) ∨ (off = 0 → β id ver = some (b, o))) := fun a cap olds hva hcap hold _ hro => by
    subst hva
    have hr := run_append_grow_src (P := P) w t tx ty e i z ht hi hz a n cap olds hold x ys.length us hsrc hcap (by omega) (growslice_fits hcap hbytes)
    have hge := grownCap_ge w (n + ys.length) cap e
    have hcm := grownCap_le_maxLen w (n + ys.length) cap e (by unfold maxLen; omega)
    have hol : olds.length = n * i.size := by rw [hro.length, widths_all (fun y hy' => hwid' y (List.mem_append_left _ hy')), List.length_take, List.length_drop]; congr 1; omega
    refine ⟨_, _, upd β id (ver + 1) (some (w.heap.size, 0)), hr, ?_⟩
    rw [← and_assoc]
    have hzl := size_zeroCells z.cells (grownCap w (n + ys.length) cap e - (n + ys.length))
    generalize hpo : (Builtin.zeroCells z.cells (grownCap w (n + ys.length) cap e - (n + ys.length))) = zz at *
    have harr : (olds ++ us).toArray ++ zz = ([] ++ (olds ++ us) ++ zz.toList).toArray := by apply Array.ext'; simp
    have hnew : (w.drew.alloc (.cells ((olds ++ us).toArray ++ zz) e)).heap[w.heap.size]? = some (.cells ((olds ++ us).toArray ++ zz) e) := getElem?_alloc_new w.drew _
    refine ⟨hs.turn ho rfl rfl (Nat.le_succ _) (hβo _) (fun b o e' => ?_) rfl rfl rfl (by simp) (fun b hb => shape_of_block (alloc_old w.drew _ hb)) (fun b hb _ => alloc_old w.drew _ hb) fun hm => ?_, ?_, fun b o e' => .inl ?_⟩
    · rw [hgo] at e'; cases e'; exact .inr (Nat.le_refl _)
    · refine .inr ⟨w.heap.size, 0, [], olds ++ us, zz.toList, e, (0, 0), upd_same, by rw [hnew, harr], fun o' _ => by simp, rfl, ?_⟩
      rw [RepC]
      exact ⟨hlen, hwid', RepCs.append (RepCs.mono hm.bare hro) (RepCs.mono hm.bare hy)⟩
    · rw [RepC]
      refine ⟨hhas _, .inr ⟨w.heap.size, 0, grownCap w (n + ys.length) cap e, e, ((olds ++ us).toArray ++ zz).size, upd_same, by simp [span], hge, by unfold maxLen at hcm; omega, ?_, ?_, hge⟩⟩
      · show World.shape? _ _ = _
        unfold World.shape?; rw [hnew]
      · simp only [span, Array.size_append, List.size_toArray, List.length_append, hol, hul, hzl, hzs]
        rw [← Nat.add_mul, ← Nat.add_mul]
        refine Nat.le_of_eq ?_
        try rw [Nat.zero_mul, Nat.zero_add]
        try rw [Nat.add_zero]
        congr 1; omega
    · rw [upd_same] at e'; cases e'
      exact ⟨rfl, ((olds ++ us).toArray ++ zz).size, by unfold World.shape?; rw [hnew]⟩
  rw [RepC] at hv
  obtain ⟨hv1, hv2⟩ := hv
  rcases hv2 with ⟨rfl, a, hva, _, han⟩ | ⟨b, o, cap, t0, m0, hb, hva, hnc, hcm, hsh, hroom, hcpc⟩
  · -- nothing yet
    have hva' : v = .slice a 0 0 := by simpa using hva
    have h0 : (cs.drop off).take 0 = [] := by simp
    by_cases hys : ys = []
    · subst hys
      have hu0 : us = [] := List.length_eq_zero_iff.1 (by simpa using hul)
      subst hu0
      subst hva'
      refine ⟨.slice a 0 0, w, upd β id (ver + 1) none, run_append_empty ht hi hsrc, ?_⟩
      rw [← and_assoc]
      refine ⟨hs.turn ho rfl rfl (Nat.le_succ _) (hβo _) (fun b o e' => by rw [hgo] at e'; cases e') rfl rfl rfl (Nat.le_refl _) (fun b hb => rfl) (fun b hb _ => rfl) fun hm => ?_, ?_, fun b o e' => by rw [upd_same] at e'; cases e'⟩
      · refine .inl ⟨upd_same, ?_⟩
        rw [RepC]
        exact ⟨by simp, by simp, by simp [RepCs]⟩
      · rw [RepC]; exact ⟨hhas _, .inl ⟨by simp, a, by simp, by simp, han⟩⟩
    · have hpos : 0 < ys.length := List.length_pos_iff.2 hys
      subst hva'
      have h0' : RepCs (Ctx.bare ⟨β, H, F⟩) w ((cs.drop off).take 0) [] := by rw [h0, RepCs]
      refine grow a 0 [] rfl (by omega) ?_ (by rw [h0, RepCs]) h0'
      cases a with
      | none => exact run_firstCells_none w.drew i.size 0 0 0
      | some ad => exact run_firstCells_some w.drew i.size 0 ad 0 0 [] (by simp) (by simp)
  · have hva' : v = .slice (some ⟨b, o + span [] + off * i.size, none⟩) n cap := by simpa using hva
    simp only [span, Nat.add_zero] at hva' hroom
    rcases hob with ⟨k0, _⟩ | ⟨b', o', pre, vs, post, t1, fr, k0, k1, k2, k3, k4⟩
    · have k0' : β id ver = none := k0
      have hb' : β id ver = some (b, o) := hb
      rw [k0'] at hb'; cases hb'
    have hb' : β id ver = some (b, o) := hb
    have k0' : β id ver = some (b', o') := k0
    rw [k0'] at hb'
    obtain ⟨rfl, rfl⟩ : b' = b ∧ o' = o := by simpa using hb'
    -- the object's cells, cut
    rw [RepC] at k4
    obtain ⟨e1, _, k4⟩ := k4
    rw [show cs = cs.take off ++ ((cs.drop off).take n ++ (cs.drop off).drop n) from by rw [List.take_append_drop, List.take_append_drop]] at k4
    obtain ⟨a, m', rfl, k5, k6⟩ := RepCs.split k4
    obtain ⟨m, q, rfl, k7, k8⟩ := RepCs.split k6
    have hal : a.length = off * i.size := by rw [k5.length, widths_all (fun y hy' => hwid y (List.mem_of_mem_take hy')), List.length_take]; congr 1; omega
    have hml : m.length = n * i.size := by rw [k7.length, widths_all (fun y hy' => hwid' y (List.mem_append_left _ hy')), List.length_take, List.length_drop]; congr 1; omega
    have hsz : m0 = (pre ++ (a ++ (m ++ q)) ++ post).length := by
      have hsh' : w.shape? b' = some (t0, m0) := hsh
      simp only [World.shape?, k1, Option.some.injEq, Prod.mk.injEq] at hsh'
      rw [← hsh'.2]; simp
    have hbase : o' + off * i.size = pre.length + a.length := by rw [k3, hal]
    by_cases hfit : n + ys.length ≤ cap
    · -- there is room
      have hle : (n + ys.length) * i.size ≤ cap * i.size := Nat.mul_le_mul_right _ hfit
      rw [Nat.add_mul] at hle
      have hq : us.length ≤ (q ++ post).length := by simp only [List.length_append] at hsz ⊢; omega
      have hblock : w.heap[b']? = some (.cells ((pre ++ a ++ m) ++ (q ++ post).take us.length ++ (q ++ post).drop us.length).toArray t1 fr) := by
        rw [k1]; congr 2; simp [List.take_append_drop]
      have hsc := setCells_block us (pre ++ a ++ m) ((q ++ post).take us.length) ((q ++ post).drop us.length) w hblock (by rw [List.length_take]; omega)
      have hoff : o' + off * i.size + n * i.size = (pre ++ a ++ m).length := by simp only [List.length_append]; omega
      have hall : (pre ++ (a ++ (m ++ q)) ++ post).length = ((pre ++ a) ++ (m ++ us) ++ (q ++ post).drop us.length).length := by simp only [List.length_append, List.length_drop] at hq ⊢; omega
      have hc : ∀ j, j < us.length → (w.cell? ⟨b', o' + off * i.size + n * i.size + j, none⟩).isSome = true := fun j hj => by
        rw [cell_of_row w b' _ _ t1 fr k1]
        rw [Array.getElem?_eq_getElem (by simp only [List.size_toArray]; simp only [List.length_append] at hoff hq ⊢; omega)]; rfl
      have hfz : ∀ j, j < us.length → w.frozen? ⟨b', o' + off * i.size + n * i.size + j, none⟩ = false := fun j hj => by
        have := k2 (o' + off * i.size + n * i.size + j) (by simp only [List.length_append] at hoff hq ⊢; omega)
        simp only [World.frozen?, k1]
        simpa using this
      have hr := run_append_room_src (P := P) w t tx ty e i ht hi b' (o' + off * i.size) n cap x ys.length us hsrc hfit hc hfz
      obtain ⟨s1, s2, s3, s4, s5, s6⟩ := setCells_os b' us (o' + off * i.size + n * i.size) w
      subst hva'
      refine ⟨_, _, upd β id (ver + 1) (some (b', o' + off * i.size)), hr, ?_⟩
      rw [← and_assoc]
      refine ⟨hs.turn ho rfl rfl (Nat.le_succ _) (hβo _) (fun b1 o1 e' => ?_) s1 s2 s3 (by omega) (fun b1 _ => s5 b1) (fun b1 _ hne => s6 b1 fun e' => hne o' (by rw [e']; exact k0')) fun hm => ?_, ?_, fun b1 o1 e' => .inr fun h0 => ?_⟩
      · rw [hgo] at e'; cases e'; exact .inl ⟨o', k0'⟩
      · refine .inr ⟨b', o' + off * i.size, pre ++ a, m ++ us, (q ++ post).drop us.length, t1, fr, upd_same, ?_, hall ▸ k2, by rw [List.length_append]; omega, ?_⟩
        · rw [hoff, hsc]; congr 2; simp
        · rw [RepC]; exact ⟨hlen, hwid', RepCs.append (RepCs.mono hm.bare k7) (RepCs.mono hm.bare hy)⟩
      · rw [RepC]
        refine ⟨hhas _, .inr ⟨b', o' + off * i.size, cap, t0, m0, upd_same, by simp [span], hfit, hcm, (s5 b').trans hsh, by simp only [span]; omega, hfit⟩⟩
      · rw [upd_same] at e'; cases e'
        rw [h0, Nat.zero_mul, Nat.add_zero]; exact k0'
    · refine grow _ cap m hva' (by omega) (run_firstCells_some w.drew i.size n _ n cap m hml ?_) (RepCs.mono (Mono.lent (c := Ctx.bare ⟨β, H, F⟩)) k7) k7
      intro j u hu
      rw [addr_add, hbase]
      have k1' : w.heap[b']? = some (.cells (pre ++ (a ++ m ++ q) ++ post).toArray t1 fr) := by rw [k1]; simp
      exact cells_mid k1' j u hu
end Go.Proofs.Ytknphdcjopaaoaa
