/- strings.Builder: WriteString to what holds a row of its own, or none yet. -/
import Derived.Test.YtijidndhlgbjhaaDoorVbPath
import Derived.Test.YtijidndhlgbjhaaDoorCodeW
namespace Go.Proofs.YtijidndhlgbjhaaDoor
open Go.RowKit
variable [Globs]
set_option linter.unusedSectionVars false
set_option linter.unusedVariables false
set_option linter.unusedSimpArgs false

/-- A builder's row. -/
def Buf (H : List Ob) (r : TV) (l : List UInt8) : Option Nat → Prop
  | none => r = .val (.slice none 0 0) ∧ l = []
  | some j => ∃ v, r = .os 1 j v [] 0 l.length l.length ∧ H[j]? = some (.bld v 5 l)
theorem Buf.wd {H : List Ob} {r : TV} {l : List UInt8} {J : Option Nat} (h : Buf H r l J) : width r = 1 := by
  cases J with
  | none => rw [h.1]; rfl
  | some j => obtain ⟨v, e, _⟩ := h; rw [e]; rfl
/-- A way through structs alone. -/
def aggP : List (Nat × Nat) → TV → Bool
  | [], _ => true
  | (i, d) :: p, .agg cs => decide (widths (cs.take i) = d) && (match cs[i]? with | some c => aggP p c | none => false)
  | _ :: _, _ => false
theorem aggP_cons {i d : Nat} {p : List (Nat × Nat)} {x : TV} (h : aggP ((i, d) :: p) x = true) : ∃ cs c, x = .agg cs ∧ widths (cs.take i) = d ∧ cs[i]? = some c ∧ aggP p c = true := by
  cases x with
  | agg cs =>
    simp only [aggP, Bool.and_eq_true, decide_eq_true_eq] at h
    obtain ⟨h1, h2⟩ := h
    cases hc : cs[i]? with
    | none => rw [hc] at h2; cases h2
    | some c => rw [hc] at h2; exact ⟨cs, c, rfl, h1, hc, h2⟩
  | _ => simp [aggP] at h
theorem aggP_self : ∀ {p : List (Nat × Nat)} {x r : TV}, aggP p x = true → getP p x = some r → setP p x r = some x
  | [], x, r, _, hg => by rw [getP_nil] at hg; cases hg; rw [setP_nil, if_pos rfl]
  | (i, d) :: p, x, r, h, hg => by
    obtain ⟨cs, c, rfl, hd, hc, h'⟩ := aggP_cons h
    rw [getP_agg, if_pos hd, hc] at hg
    rw [setP_agg, if_pos hd, hc, Option.bind_some, aggP_self h' hg, Option.map_some]
    obtain ⟨hi, rfl⟩ := List.getElem?_eq_some_iff.1 hc
    rw [List.set_getElem_self]
theorem aggP_set : ∀ {p : List (Nat × Nat)} {x r b : TV}, aggP p x = true → getP p x = some r → width b = width r → ∃ x', setP p x b = some x' ∧ aggP p x' = true ∧ getP p x' = some b ∧ ∀ c, width c = width b → setP p x' c = setP p x c
  | [], x, r, b, _, hg, hw => by
    rw [getP_nil] at hg; cases hg
    refine ⟨b, by rw [setP_nil, if_pos hw], rfl, rfl, fun c hc => by rw [setP_nil, setP_nil, if_pos hc, if_pos (hc.trans hw)]⟩
  | (i, d) :: p, x, r, b, h, hg, hw => by
    obtain ⟨cs, c, rfl, hd, hc, h'⟩ := aggP_cons h
    rw [getP_agg, if_pos hd, hc] at hg
    obtain ⟨c', h1, h2, h3, h4⟩ := aggP_set h' hg hw
    have hi : i < cs.length := (List.getElem?_eq_some_iff.1 hc).1
    have hti : (cs.set i c').take i = cs.take i := by rw [List.take_set_of_le (Nat.le_refl _)]
    refine ⟨.agg (cs.set i c'), by rw [setP_agg, if_pos hd, hc, Option.bind_some, h1]; rfl, ?_, ?_, fun y hy => ?_⟩
    · simp [aggP, hti, hd, List.getElem?_set_self hi, h2]
    · rw [getP_agg, hti, if_pos hd, List.getElem?_set_self hi]; exact h3
    · rw [setP_agg, setP_agg, hti, if_pos hd, if_pos hd, List.getElem?_set_self hi, hc, Option.bind_some, Option.bind_some, h4 y hy]
      cases setP p c y with
      | none => rfl
      | some z => simp [List.set_set]
theorem aggP_row : ∀ {p : List (Nat × Nat)} {x a r b : TV}, aggP p x = true → getP p x = some (.agg [a, r]) → width a = 1 → width r = 1 → width b = 1 → setP (p ++ [(1, 1)]) x b = setP p x (.agg [a, b])
  | [], x, a, r, b, _, hg, ha, hr, hb => by
    rw [getP_nil] at hg; cases hg
    have w1 : width (.agg [a, b]) = width (.agg [a, r]) := by simp [width, widths, hb, hr]
    have h1 : widths ([a, r].take 1) = 1 := by simp [widths, ha]
    rw [setP_nil, if_pos w1, List.nil_append, setP_agg, if_pos h1]
    simp [setP_nil, hb, hr]
  | (i, d) :: p, x, a, r, b, h, hg, ha, hr, hb => by
    obtain ⟨cs, c, rfl, hd, hc, h'⟩ := aggP_cons h
    rw [getP_agg, if_pos hd, hc] at hg
    rw [List.cons_append, setP_agg, setP_agg, if_pos hd, if_pos hd, hc, Option.bind_some, Option.bind_some, aggP_row h' hg ha hr hb]
/-- A row is taken into hand: one of its own is there then. -/
theorem ownT_any {P : Program} {s id ver : Nat} {p0 p : List (Nat × Nat)} {x r : TV} {l : List UInt8} {J : Option Nat} {H : List Ob} {e : Env} {c : VCode} {Q : VEx → Env → List Ob → Prop} (hs : get e s = .op id ver p0) (ho : H[id]? = some (.obj ver x))
    (hg : getP (p0 ++ p) x = some r) (hb : Buf H r l J) (hset : ∀ b, width b = 1 → ∃ x', setP (p0 ++ p) x b = some x') (hself : setP (p0 ++ p) x r = some x)
    (h : ∀ H' x' j v, setP (p0 ++ p) x (.os 1 j v [] 0 l.length l.length) = some x' → H'[id]? = some (.obj ver x') → H'[j]? = some (.bld v 5 l) → (∀ i, i < H.length → i ≠ id → H'[i]? = H[i]?) → H.length ≤ H'.length → (J = some j ∨ J = none ∧ j = H.length) → vwp P c Q e H') :
    vwp P (.ownT s p 5 c) Q e H := by
  rw [v_ownT, hs]
  simp only [ho, true_and]
  rw [hg]
  have hid : id < H.length := (List.getElem?_eq_some_iff.1 ho).1
  cases J with
  | none =>
    obtain ⟨rfl, rfl⟩ := hb
    obtain ⟨x', hx⟩ := hset (.os 1 H.length 0 [] 0 0 0) rfl
    simp only [hx]
    refine h _ x' H.length 0 hx ?_ ?_ ?_ ?_ (.inr ⟨rfl, rfl⟩)
    · rw [List.getElem?_append_left (by simpa using hid), List.getElem?_set_self hid]
    · rw [List.getElem?_append_right (by simp)]; simp
    · intro i hi hne
      rw [List.getElem?_append_left (by simpa using hi), List.getElem?_set_ne (Ne.symm hne)]
    · simp
  | some j =>
    obtain ⟨v, rfl, hj⟩ := hb
    exact h H x j v hself ho hj (fun _ _ _ => rfl) (Nat.le_refl _) (.inl rfl)

theorem writeAny {id ver q m : Nat} {T : TypeId} {J : Option Nat} {p : List (Nat × Nat)} {x a r : TV} {l s : List UInt8} {H : List Ob} {K : TV → List Ob → Prop} (ho : H[id]? = some (.obj ver x)) (hp : aggP p x = true) (hg : getP p x = some (.agg [a, r])) (ha : BldSelf id ver p a) (hb : Buf H r l J)
    (hq : H[q]? = some (.fact id ver T m)) (hT : lies T m (span p)) (hlen : l.length + s.length ≤ 140737488355328)
    (hk : ∀ H' x' r' j, setP p x (.agg [.op id ver p, r']) = some x' → H'[id]? = some (.obj ver x') → Buf H' r' (l ++ s) (some j) → (∀ i, i < H.length → i ≠ id → J ≠ some i → H'[i]? = H[i]?) → H.length ≤ H'.length → (J = some j ∨ J = none ∧ j = H.length) → K (.tup [i64 (s.length : Int), .val .nilIface]) H') :
    VCalls Tryd.prog 116 [.op id ver p, .val (.string (str s))] H K := by
  refine go_strings_Builder_WriteString (by simp) ?_
  have wa := width_self ha
  have wr := hb.wd
  have hgr : getP (p ++ [(1, 1)]) x = some r := by
    rw [getP_app, hg, Option.bind_some, getP_agg, if_pos (by simp [widths, wa])]; rfl
  rw [u_strings_Builder_WriteString_e]
  refine ownT_any (p0 := p) (p := [(1, 1)]) rfl ho hgr hb ?_ ?_ ?_
  · intro b wb
    rw [aggP_row hp hg wa wr wb]
    obtain ⟨x', h1, _⟩ := aggP_set (b := .agg [a, b]) hp hg (by simp [width, widths, wb, wr])
    exact ⟨x', h1⟩
  · rw [aggP_row hp hg wa wr wr]; exact aggP_self hp hg
  intro H1 x1 j v hs1 ho1 hj1 hfr hl1 hJ
  rw [aggP_row hp hg wa wr rfl] at hs1
  obtain ⟨x1', e1, hp1, hg1, hov⟩ := aggP_set (b := .agg [a, .os 1 j v [] 0 l.length l.length]) hp hg (by simp [width, widths, wr])
  rw [hs1] at e1; cases e1
  obtain ⟨x2, hs2, _⟩ := aggP_set (b := .agg [.op id ver p, .os 1 j v [] 0 l.length l.length]) hp1 hg1 (by simp [width, widths, wa])
  have hne : id ≠ j := fun e => by rw [e] at ho1; rw [hj1] at ho1; cases ho1
  have hqid : q ≠ id := fun e => by rw [e] at hq; rw [ho] at hq; cases hq
  have hq1 : H1[q]? = some (.fact id ver T m) := by rw [hfr q ((List.getElem?_eq_some_iff.1 hq).1) hqid]; exact hq
  simp -dsimp (disch := first | assumption | omega) only [↓vmPre, vmPost, vmWrd, vmDat, eq_self, forall_const, Nat.reduceLT, Nat.reduceEqDiff, Nat.reduceSub, Nat.reduceMul, Nat.reduceMod, Nat.reduceDiv, Nat.reducePow, UInt8.reduceToNat, Int.reduceEq, Int.reduceLT, Int.reduceLE, ↓reduceIte, Nat.reduceEqDiff, Nat.reduceAdd, Int.reduceToNat, reduceCtorEq, Nat.reduceLeDiff, ↓u_strings_Builder_WriteString]
  refine copyCheckV ho1 hg1 rfl ha hq1 hT hs2 rfl ?_
  have hid : id < H1.length := (List.getElem?_eq_some_iff.1 ho1).1
  have hjl : j < H1.length := (List.getElem?_eq_some_iff.1 hj1).1
  obtain ⟨g1, x'', g2, g3⟩ := bld_path (b' := .os 1 j (v + 1) [] 0 (l ++ s).length (l ++ s).length) wa (by rfl) (by rfl) (by rfl) (by rfl) hg1 hs2
  have f1 : (H1.set id (.obj ver x2))[id]? = some (.obj ver x2) := by simp [hid]
  have f2 : (H1.set id (.obj ver x2))[j]? = some (.bld v 5 l) := by rw [List.getElem?_set_ne hne]; exact hj1
  have f3 : ((H1.set id (.obj ver x2)).set j (.bld (v + 1) 5 (l ++ s)))[id]? = some (.obj ver x2) := by rw [List.getElem?_set_ne (Ne.symm hne)]; exact f1
  have f4 : ((H1.set id (.obj ver x2)).set j (.bld (v + 1) 5 (l ++ s))).set id (.obj ver x'') = (H1.set id (.obj ver x'')).set j (.bld (v + 1) 5 (l ++ s)) := by
    rw [List.set_comm _ _ hne, List.set_set, List.set_comm _ _ hne.symm]
  have e1 : (l ++ s).length = l.length + s.length := by simp
  rw [e1] at g2
  rw [hov _ (by simp [width, widths, wa])] at g3
  have hk' := hk ((H1.set id (.obj ver x'')).set j (.bld (v + 1) 5 (l ++ s))) x'' _ j g3 (by rw [List.getElem?_set_ne (Ne.symm hne)]; simp [hid]) ⟨v + 1, rfl, by simp [hjl]⟩ (fun i hi h1 h2 => by
    have hij : j ≠ i := by
      rcases hJ with e | ⟨_, e⟩
      · exact fun h => h2 (h ▸ e)
      · omega
    rw [List.getElem?_set_ne hij, List.getElem?_set_ne (Ne.symm h1), hfr i hi h1]) (by simpa using hl1) hJ
  have bls : bl (str s) = s := by simp [bl, str]
  simp -dsimp (disch := first | assumption | omega) only [↓vmPre, vmPost, vmWrd, vmDat, eq_self, forall_const, Nat.reduceLT, Nat.reduceEqDiff, Nat.reduceSub, Nat.reduceMul, Nat.reduceMod, Nat.reduceDiv, Nat.reducePow, UInt8.reduceToNat, Int.reduceEq, Int.reduceLT, Int.reduceLE, ↓reduceIte, Nat.reduceEqDiff, Nat.reduceAdd, Int.reduceToNat, reduceCtorEq, Nat.reduceLeDiff, ↓u_strings_Builder_WriteString, f1, f2, f3, f4, g1, g2, bls, List.length_append, List.length_map, List.take_length, hlen]
  exact hk'
end Go.Proofs.YtijidndhlgbjhaaDoor
