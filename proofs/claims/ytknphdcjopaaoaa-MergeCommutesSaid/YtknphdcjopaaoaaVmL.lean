/- A statement whose order is open: if what it does at first changes no object, and all else waits for it, any order does what the text's order does. No program in sight. -/
import Derived.Test.YtknphdcjopaaoaaVmI
import Derived.Orders
import Derived.OrdersIn
namespace Go.Proofs.Ytknphdcjopaaoaa
open Go.RowKit
set_option linter.unusedVariables false
set_option autoImplicit false

/-! Which operations stand ahead of which. -/
def preds (o : Oper) : List Nat := (o.after.toList.filter (Region.binds .any)).map (·.on)
def maskOf (ps : List Nat) (acc : List Nat) : Nat := ps.foldl (fun s p => s ||| 2 ^ p ||| acc.getD p 0) 0
def clsGo : List Oper → List Nat → List Nat
  | [], acc => acc
  | o :: r, acc => clsGo r (acc ++ [maskOf (preds o) acc])
def cls (ops : List Oper) : List Nat := clsGo ops []

/-- A set of numbers that has what stands ahead of each. -/
def Closed (ops : List Oper) (S : Nat → Prop) : Prop := ∀ i o, ops[i]? = some o → S i → ∀ p ∈ preds o, S p

theorem maskOf_bits {ps acc : List Nat} {k : Nat} (h : (maskOf ps acc).testBit k = true) : ∃ p ∈ ps, k = p ∨ (acc.getD p 0).testBit k = true := by
  unfold maskOf at h
  have key : ∀ (ps : List Nat) (s : Nat), (ps.foldl (fun s p => s ||| 2 ^ p ||| acc.getD p 0) s).testBit k = true → s.testBit k = true ∨ ∃ p ∈ ps, k = p ∨ (acc.getD p 0).testBit k = true := by
    intro ps
    induction ps with
    | nil => intro s h; exact .inl h
    | cons p ps ih =>
      intro s h
      rcases ih _ h with h1 | ⟨q, hq, h1⟩
      · rw [Nat.testBit_or, Nat.testBit_or, Bool.or_eq_true, Bool.or_eq_true] at h1
        rcases h1 with (h1 | h1) | h1
        · exact .inl h1
        · rw [Nat.testBit_two_pow] at h1
          exact .inr ⟨p, by simp, .inl (by simpa using h1 : p = k).symm⟩
        · exact .inr ⟨p, by simp, .inr h1⟩
      · exact .inr ⟨q, by simp [hq], h1⟩
  rcases key ps 0 h with h | h
  · simp at h
  · exact h

theorem clsGo_spec {all : List Oper} : ∀ (rest done : List Oper) (acc : List Nat), all = done ++ rest → acc.length = done.length →
    (∀ (j m : Nat) (o : Oper), acc[j]? = some m → all[j]? = some o → ∀ S, Closed all S → (∀ p ∈ preds o, S p) → ∀ k, m.testBit k = true → S k) →
    (clsGo rest acc).length = all.length ∧ ∀ (j m : Nat) (o : Oper), (clsGo rest acc)[j]? = some m → all[j]? = some o → ∀ S, Closed all S → (∀ p ∈ preds o, S p) → ∀ k, m.testBit k = true → S k
  | [], done, acc, h1, h2, h3 => ⟨by rw [clsGo, h1]; simpa using h2, h3⟩
  | o :: rest, done, acc, h1, h2, h3 => by
    rw [clsGo]
    refine clsGo_spec rest (done ++ [o]) _ (by rw [h1]; simp) (by simp [h2]) ?_
    intro j m o' hm ho S hS hp k hk
    rcases Nat.lt_trichotomy j acc.length with h | h | h
    · rw [List.getElem?_append_left h] at hm
      exact h3 j m o' hm ho S hS hp k hk
    · subst h
      simp at hm; subst hm
      have ho' : o' = o := by
        rw [h1, h2, List.getElem?_append_right (Nat.le_refl _)] at ho
        simpa using ho.symm
      subst ho'
      obtain ⟨p, hpp, hkp⟩ := maskOf_bits hk
      rcases hkp with rfl | hkp
      · exact hp k hpp
      · cases hq : acc[p]? with
        | none => rw [List.getD_eq_getElem?_getD, hq] at hkp; simp at hkp
        | some mp =>
          rw [List.getD_eq_getElem?_getD, hq] at hkp
          have hpl : p < done.length := by rw [← h2]; exact (List.getElem?_eq_some_iff.1 hq).1
          have hop : all[p]? = some done[p] := by rw [h1, List.getElem?_append_left hpl]; simp [hpl]
          exact h3 p mp _ hq hop S hS (hS p _ hop (hp p hpp)) k hkp
    · rw [List.getElem?_eq_none (by simp; omega)] at hm; cases hm

theorem cls_ok {all : List Oper} {i m : Nat} {o : Oper} (hm : (cls all)[i]? = some m) (ho : all[i]? = some o) {S : Nat → Prop} (hS : Closed all S) (hp : ∀ p ∈ preds o, S p) {k : Nat} (hk : m.testBit k = true) : S k :=
  (clsGo_spec all [] [] rfl rfl (by simp)).2 i m o hm ho S hS hp k hk
theorem cls_length (all : List Oper) : (cls all).length = all.length := (clsGo_spec all [] [] rfl rfl (by simp)).1

/-! What is quiet. -/
def SOp.rd : SOp → List Nat
  | .alloc _ | .allocT _ _ => []
  | .box x | .s2b x | .boxT x _ | .bstr _ x => x.rd
  | .bslice _ _ _ ps => ps.flatMap fun q => q.2.rd
  | .store _ x y | .mks _ _ _ x y | .app _ _ _ x y | .appS _ x y | .copy _ x y | .copyS x y | .ment _ _ x y => x.rd ++ y.rd
  | .call _ args => args.flatMap Opd.rd
  | .callv x args => x.rd ++ args.flatMap Opd.rd
  | .mkm _ h => rdO h
  | .mupd _ x y z | .mest x y z => x.rd ++ (y.rd ++ z.rd)
theorem sop_congr {P : Program} {o : SOp} {e e' : Env} (h : ∀ s ∈ o.rd, get e s = get e' s) (H : List Ob) (K : TV → List Ob → Prop) : sop P o e H K = sop P o e' H K := by
  have two : ∀ {x y : Opd}, (∀ s ∈ x.rd ++ y.rd, get e s = get e' s) → x.ev e = x.ev e' ∧ y.ev e = y.ev e' := fun h => ⟨ev_congr fun s hs => h s (List.mem_append_left _ hs), ev_congr fun s hs => h s (List.mem_append_right _ hs)⟩
  have tups : ∀ {xs : List Opd}, (∀ s ∈ xs.flatMap Opd.rd, get e s = get e' s) → (∀ x ∈ xs, isTup (x.ev e) = false) = (∀ x ∈ xs, isTup (x.ev e') = false) := fun {xs} h => propext
    ⟨fun k x hx => by rw [← ev_congr (e := e) (e' := e') fun s hs => h s (List.mem_flatMap.2 ⟨x, hx, hs⟩)]; exact k x hx, fun k x hx => by rw [ev_congr (e := e) (e' := e') fun s hs => h s (List.mem_flatMap.2 ⟨x, hx, hs⟩)]; exact k x hx⟩
  cases o with
  | alloc z => rfl
  | allocT z t => rfl
  | boxT x t => simp only [sop, ev_congr (x := x) h]
  | bstr f x => simp only [sop, ev_congr (x := x) h]
  | box x => simp only [sop, ev_congr (x := x) h]
  | s2b x => simp only [sop, ev_congr (x := x) h]
  | bslice k n z ps =>
    obtain ⟨k1, k2, k3⟩ := fills_congr h (List.replicate n z) (List.replicate n k)
    simp only [sop, k1, k2, k3]
  | store sz x y => obtain ⟨h1, h2⟩ := two h; simp only [sop, h1, h2]
  | mks k b z x y => obtain ⟨h1, h2⟩ := two h; simp only [sop, h1, h2]
  | app k b et x y => obtain ⟨h1, h2⟩ := two h; simp only [sop, h1, h2]
  | appS et x y => obtain ⟨h1, h2⟩ := two h; simp only [sop, h1, h2]
  | copy k x y => obtain ⟨h1, h2⟩ := two h; simp only [sop, h1, h2]
  | copyS x y => obtain ⟨h1, h2⟩ := two h; simp only [sop, h1, h2]
  | ment kk z x y => obtain ⟨h1, h2⟩ := two h; simp only [sop, h1, h2]
  | call f args => simp only [sop, map_ev_congr (xs := args) (e := e) (e' := e') h, tups (xs := args) h]
  | callv x args =>
    have h1 := ev_congr (x := x) (e := e) (e' := e') fun s hs => h s (List.mem_append_left _ hs)
    have h2 := fun s hs => h s (List.mem_append_right x.rd hs)
    simp only [sop, h1, map_ev_congr (xs := args) (e := e) (e' := e') h2, tups (xs := args) h2]
  | mkm kk r =>
    cases r with
    | none => rfl
    | some x => simp only [sop, ev_congr (x := x) (e := e) (e' := e') h]
  | mupd kk x y z =>
    have h1 := ev_congr (x := x) (e := e) (e' := e') fun s hs => h s (List.mem_append_left _ hs)
    obtain ⟨h2, h3⟩ := two (x := y) (y := z) fun s hs => h s (List.mem_append_right x.rd hs)
    simp only [sop, h1, h2, h3]
  | mest x y z =>
    have h1 := ev_congr (x := x) (e := e) (e' := e') fun s hs => h s (List.mem_append_left _ hs)
    obtain ⟨h2, h3⟩ := two (x := y) (y := z) fun s hs => h s (List.mem_append_right x.rd hs)
    simp only [sop, h1, h2, h3]
def VO.rd (o : VO) : List Nat := (match o.op with | .p o => o.rd | .s o => o.rd) ++ (match o.g with | none => [] | some (s, _) => [s])

theorem vop_congr {P : Program} {v : VO} {e e' : Env} (h : ∀ s ∈ v.rd, get e s = get e' s) (H : List Ob) (K : TV → List Ob → Prop) : vop P v.op e H K = vop P v.op e' H K := by
  have h1 : ∀ s ∈ (match v.op with | .p o => o.rd | .s o => o.rd), get e s = get e' s := fun s hs => h s (List.mem_append_left _ hs)
  cases ho : v.op with
  | p o => rw [ho] at h1; exact pop_congr h1 H fun x => K x H
  | s o => rw [ho] at h1; exact sop_congr h1 H K

/-- It looks at no object. -/
def noH : POp → Bool
  | .b2s _ | .load _ _ _ | .slA _ _ _ _ _ | .gen _ _ => false
  | _ => true
theorem pop_noH {o : POp} (h : noH o = true) {e : Env} {H H' : List Ob} {K : TV → Prop} : pop o e H K = pop o e H' K := by
  cases o <;> first | rfl | simp [noH] at h
/-- A question to a map, by slots. -/
def lookOp : POp → Option (MK × TV × Nat × Nat)
  | .gen (.look kk z false) [.t a, .t b] => some (kk, z, a, b)
  | _ => none
theorem lookOp_spec {o : POp} {kk : MK} {z : TV} {a b : Nat} (h : lookOp o = some (kk, z, a, b)) : o = .gen (.look kk z false) [.t a, .t b] := by
  unfold lookOp at h
  split at h
  · cases h; rfl
  · cases h
def zSame : TV → TV → Bool
  | .val (.int k a), .val (.int k' b) => decide (k = k') && decide (a = b)
  | _, _ => false
theorem zSame_spec {x y : TV} (h : zSame x y = true) : x = y := by
  unfold zSame at h
  split at h
  · simp only [Bool.and_eq_true, decide_eq_true_eq] at h; rw [h.1, h.2]
  · cases h
/-- What may be done while a question to a map is still to be asked: nothing but that key's entry changes. -/
def calmOp (o : POp) : VOp → Bool
  | .p _ => true
  | .s (.alloc _) | .s (.bstr _ _) | .s (.bslice _ _ _ _) | .s (.s2b _) => true
  | .s (.ment kk' z' (.t a') (.t b')) => (match lookOp o with
    | some (kk, z, a, b) => decide (kk' = kk) && zSame z' z && decide (a' = a) && decide (b' = b)
    | none => false)
  | _ => false
/-- What becomes of the objects. -/
def HRel (u : VOp) (e : Env) (H H' : List Ob) : Prop := match u with
  | .p _ => H' = H
  | .s (.alloc _) | .s (.bslice _ _ _ _) | .s (.s2b _) => ∃ o, H' = H ++ [o]
  | .s (.bstr _ _) => ∃ j v t l, H[j]? = some (.bld v t l) ∧ H' = H.set j (.gone v)
  | .s (.ment kk z x y) => ∃ id kb es, x.ev e = .mp id 0 ∧ kBytes kk (y.ev e) = some kb ∧ H[id]? = some (.mpo kk es) ∧ H' = H.set id (.mpo kk (mput kb ((mget kb es).getD z) es))
  | _ => True
theorem vop_rel {P : Program} {u : VOp} {e : Env} {H : List Ob} {K : TV → List Ob → Prop} (h : vop P u e H K) : vop P u e H (fun x H' => K x H' ∧ HRel u e H H') := by
  cases u with
  | p o =>
    have h' : pop o e H fun x => K x H := h
    obtain ⟨x, h1, h2⟩ := pop_det h'
    exact h1 (fun x => K x H ∧ H = H) ⟨h2, rfl⟩
  | s o =>
    cases o with
    | alloc z => exact ⟨h, _, rfl⟩
    | bslice k n z ps => exact ⟨h.1, h.2, _, rfl⟩
    | s2b x =>
      have h' : sop P (.s2b x) e H K := h
      show sop P (.s2b x) e H fun v H' => K v H' ∧ HRel (.s (.s2b x)) e H H'
      simp only [sop] at h' ⊢
      split at h'
      · exact ⟨h'.1, h'.2, _, rfl⟩
      · exact h'.elim
    | bstr f x =>
      have h' : sop P (.bstr f x) e H K := h
      show sop P (.bstr f x) e H fun v H' => K v H' ∧ HRel (.s (.bstr f x)) e H H'
      simp only [sop] at h' ⊢
      refine ⟨h'.1, ?_⟩
      have h2 := h'.2
      split at h2
      · rename_i j v l hr
        obtain ⟨_, _, _, _, _, _, _, _, _, _, h5⟩ := rowOf_spec hr
        exact ⟨h2.1, h2.2, j, v, _, l, h5, rfl⟩
      · exact h2.elim
    | ment kk z x y =>
      have h' : sop P (.ment kk z x y) e H K := h
      show sop P (.ment kk z x y) e H fun v H' => K v H' ∧ HRel (.s (.ment kk z x y)) e H H'
      simp only [sop] at h' ⊢
      split at h'
      · rename_i id kb hx hy
        split at h'
        · rename_i kk' es hid
          obtain ⟨rfl, h'⟩ := h'
          simp only [hid, true_and]
          exact ⟨h', id, kb, es, hx, hy, hid, rfl⟩
        · exact h'.elim
      · exact h'.elim
    | _ =>
      have e1 : (fun x H' => K x H' ∧ True) = K := funext fun x => funext fun H' => propext ⟨fun h => h.1, fun h => ⟨h, trivial⟩⟩
      rw [← e1] at h; exact h
theorem mget_mputL {k : List UInt8} {x : TV} : ∀ {es : List (List UInt8 × TV)}, mget k (mput k x es) = some x
  | [] => by simp [mput, mget]
  | (q, y) :: es => by
    rw [mput]
    by_cases hq : q = k
    · subst hq; simp [mget]
    · rw [if_neg hq, mget, if_neg hq, mget_mputL]
theorem elemsOf_append {H : List Ob} {k : Nat} {x : TV} {cs : List TV} {o : Ob} (h : elemsOf H k x = some cs) : elemsOf (H ++ [o]) k x = some cs := by
  cases x with
  | os k' id ver p off n cp =>
    simp only [elemsOf] at h ⊢
    split at h
    · rename_i hk
      split at h
      · rename_i v y hid
        rw [List.getElem?_append_left (List.getElem?_eq_some_iff.1 hid).1, hid]
        simp only [hk, if_true]
        exact h
      · cases h
    · cases h
  | _ => first | exact h | (simp [elemsOf] at h)
theorem elemsOf_gone {H : List Ob} {k j v : Nat} {t : TypeId} {l : List UInt8} {x : TV} {cs : List TV} (hj : H[j]? = some (.bld v t l)) (h : elemsOf H k x = some cs) : elemsOf (H.set j (.gone v)) k x = some cs := by
  cases x with
  | os k' id ver p off n cp =>
    simp only [elemsOf] at h ⊢
    split at h
    · rename_i hk
      split at h
      · rename_i v2 y hid
        have hne : j ≠ id := fun e => by subst e; rw [hj] at hid; cases hid
        rw [List.getElem?_set_ne hne, hid]
        simp only [hk, if_true]
        exact h
      · cases h
    · cases h
  | _ => first | exact h | (simp [elemsOf] at h)
/-- What looks at objects looks at the same where those are that are looked at. -/
theorem pop_keep {o : POp} {e : Env} {H H' : List Ob} {K : TV → Prop} (hk : ∀ (id : Nat) ob, H[id]? = some ob → (∀ v t l, ob ≠ .bld v t l) → H'[id]? = some ob) (he : ∀ k x cs, elemsOf H k x = some cs → elemsOf H' k x = some cs) (h : pop o e H K) : pop o e H' K := by
  cases o with
  | load ag sz x =>
    simp only [pop] at h ⊢
    split at h
    · exact h
    · split at h
      · rename_i v y hid
        rw [hk _ _ hid (by simp)]; exact h
      · exact h.elim
    · exact h.elim
  | b2s x =>
    simp only [pop] at h ⊢
    split at h
    · rename_i cs hc; rw [he _ _ _ hc]; exact h
    · exact h.elim
  | slA n k x lo hi =>
    simp only [pop] at h ⊢
    split at h
    · exact h
    · split at h
      · rename_i v y hid
        rw [hk _ _ hid (by simp)]; exact h
      · exact h.elim
    · exact h.elim
  | gen g xs =>
    simp only [pop] at h ⊢
    have hg : ∀ (ys : List TV) r, gev g H ys = some r → gev g H' ys = some r := by
      intro ys r hr
      unfold gev at hr ⊢
      split at hr
      · exact hr
      · exact hr
      · exact hr
      · rename_i kk z ok x k
        simp only [gLook] at hr ⊢
        split at hr
        · split at hr
          · rename_i id kk' es kb h1 h2
            rw [hk _ _ h1 (by simp), h2]; exact hr
          · cases hr
        · exact hr
        · cases hr
      · rename_i x
        simp only [gLenM] at hr ⊢
        split at hr
        · split at hr
          · rename_i h1
            rw [hk _ _ h1 (by simp)]; exact hr
          · cases hr
        · exact hr
        · cases hr
      · cases hr
    cases hgl : gev g H (xs.map (·.ev e)) with
    | none => rw [hgl] at h; exact h.elim
    | some r => rw [hgl] at h; rw [hg _ r hgl]; exact h
  | _ => exact h
/-- A question that is still to be asked is answered as before. -/
theorem calm_step {o : POp} {u : VOp} {e es : Env} {H H' : List Ob} {x : TV} (hf : noH o = true ∨ calmOp o u = true) (hr : HRel u e H H') (hes : ∀ s ∈ o.rd, get es s = get e s ∨ get es s = .any) (h : ∀ K : TV → Prop, K x → pop o es H K) : ∀ K : TV → Prop, K x → pop o es H' K := by
  intro K hK
  have app : (∃ o, H' = H ++ [o]) → pop o es H' K := by
    rintro ⟨ob, rfl⟩
    exact pop_keep (fun id ob' h1 _ => by rw [List.getElem?_append_left (List.getElem?_eq_some_iff.1 h1).1]; exact h1) (fun k x cs => elemsOf_append) (h K hK)
  rcases hf with hf | hf
  · rw [pop_noH hf (H' := H)]; exact h K hK
  · unfold calmOp at hf
    split at hf
    · have hr' : H' = H := hr
      rw [hr']; exact h K hK
    · exact app hr
    · obtain ⟨j, v, t, l, hj, rfl⟩ := hr
      exact pop_keep (fun id ob h1 h2 => by
        have hne : j ≠ id := fun e => by subst e; rw [hj] at h1; cases h1; exact h2 _ _ _ rfl
        rw [List.getElem?_set_ne hne]; exact h1) (fun k x cs => elemsOf_gone hj) (h K hK)
    · exact app hr
    · exact app hr
    · rename_i kk' z' a' b'
      split at hf
      · rename_i kk z a b hl
        simp only [Bool.and_eq_true, decide_eq_true_eq] at hf
        obtain ⟨⟨⟨rfl, hz⟩, rfl⟩, rfl⟩ := hf
        obtain rfl := zSame_spec hz
        have ho := lookOp_spec hl
        subst ho
        obtain ⟨id, kb, es0, h1, h2, h3, h4⟩ := hr
        have h9 := h K hK
        have hA : get e a' = .mp id 0 := h1
        have hB : kBytes kk' (get e b') = some kb := h2
        have ha := hes a' (by simp [POp.rd, Opd.rd])
        have hb := hes b' (by simp [POp.rd, Opd.rd])
        have h10 := h (fun y => y = x) rfl
        simp only [pop, gev, List.map_cons, List.map_nil, Opd.ev] at h9 h10 ⊢
        rcases ha with ha | ha
        case inr => rw [ha] at h9; simp [gLook] at h9
        rcases hb with hb | hb
        case inr => rw [ha, hA, hb] at h9; simp [gLook, kBytes] at h9
        rw [ha, hA, hb] at h9 h10 ⊢
        have hlt : id < H.length := (List.getElem?_eq_some_iff.1 h3).1
        simp only [gLook, h3, hB, if_true] at h9 h10
        rw [h4]
        simp only [gLook, List.getElem?_set_self hlt, hB, if_true, mget_mputL]
        simp only [lookT, if_false] at h9 h10 ⊢
        simpa using h9
      · cases hf
    · cases hf
/-- What looks at slots alone is done at any time: nobody else writes there; who writes what it looks at stands ahead of it, or waits for it. -/
def freeOp (m : List Nat) (l : List VO) (nA i : Nat) : Bool := match l[i]? with
  | some ⟨some d, .p o, none⟩ => decide (i < nA) && (noH o || ((List.range l.length).all fun j => decide (j < nA) || (m.getD j 0).testBit i || (match l[j]? with | some u => calmOp o u.op | none => true))) && !o.rd.contains d &&
      (List.range l.length).all fun j => j == i || (match l[j]? with | some u => (match u.dst with | some d' => d' != d && (!o.rd.contains d' || decide (j < i) || (decide (nA ≤ j) && (m.getD j 0).testBit i)) | none => true) | none => true)
  | _ => false
theorem freeOp_spec {m : List Nat} {l : List VO} {nA i : Nat} (h : freeOp m l nA i = true) : ∃ d o, l[i]? = some ⟨some d, .p o, none⟩ ∧ i < nA ∧ (∀ (j : Nat) u, nA ≤ j → l[j]? = some u → noH o = true ∨ (m.getD j 0).testBit i = true ∨ calmOp o u.op = true) ∧ ¬ d ∈ o.rd ∧ ∀ (j : Nat) u d', l[j]? = some u → j ≠ i → u.dst = some d' → d' ≠ d ∧ (¬ d' ∈ o.rd ∨ j < i ∨ (nA ≤ j ∧ (m.getD j 0).testBit i = true)) := by
  unfold freeOp at h
  split at h
  · rename_i d o hi
    simp only [Bool.and_eq_true, decide_eq_true_eq, List.all_eq_true, List.mem_range, Bool.or_eq_true, beq_iff_eq, Bool.not_eq_true', ← Bool.not_eq_true, List.contains_iff_mem] at h
    obtain ⟨⟨⟨h1, h2⟩, h3⟩, h4⟩ := h
    refine ⟨d, o, hi, h1, fun j u hnj hj => ?_, h3, fun j u d' hj hne hu => ?_⟩
    · rcases h2 with h2 | h5
      · exact .inl h2
      · have hjl : j < l.length := (List.getElem?_eq_some_iff.1 hj).1
        have h6 := h5 j hjl
        rw [hj] at h6
        rcases h6 with (h6 | h6) | h6
        · omega
        · exact .inr (.inl h6)
        · exact .inr (.inr h6)
    have hjl : j < l.length := (List.getElem?_eq_some_iff.1 hj).1
    have h5 := (h4 j hjl).resolve_left hne
    rw [hj] at h5
    simp only [hu] at h5
    simpa [or_assoc] using h5
  · cases h
/-- A new object may be made ahead of its turn: nobody else writes its slot, who looks at that waits for it. -/
def isAllocOp (ops : List Oper) (i : Nat) : Bool := match ops[i]? with
  | some o => (match o.op with | .alloc _ => true | _ => false)
  | none => false
def earlyOp (ops : List Oper) (m : List Nat) (l : List VO) (nA i : Nat) : Bool := match l[i]? with
  | some ⟨some d, .s (.alloc _), none⟩ => isAllocOp ops i && decide (nA ≤ i) &&
      (List.range l.length).all fun j => j == i || (match l[j]? with | some u => u.dst != some d && (!u.rd.contains d || (m.getD j 0).testBit i) | none => true)
  | _ => false
theorem earlyOp_spec {ops : List Oper} {m : List Nat} {l : List VO} {nA i : Nat} (h : earlyOp ops m l nA i = true) : ∃ d z, l[i]? = some ⟨some d, .s (.alloc z), none⟩ ∧ nA ≤ i ∧ (∃ o t, ops[i]? = some o ∧ o.op = .alloc t) ∧ ∀ (j : Nat) u, l[j]? = some u → j ≠ i → u.dst ≠ some d ∧ (d ∈ u.rd → (m.getD j 0).testBit i = true) := by
  unfold earlyOp at h
  split at h
  · rename_i d z hi
    simp only [Bool.and_eq_true, decide_eq_true_eq, List.all_eq_true, List.mem_range, Bool.or_eq_true, beq_iff_eq] at h
    obtain ⟨⟨h1, h2⟩, h3⟩ := h
    refine ⟨d, z, hi, h2, ?_, fun j u hj hne => ?_⟩
    · unfold isAllocOp at h1
      split at h1
      · rename_i o ho
        split at h1
        · rename_i t ht; exact ⟨o, t, ho, ht⟩
        · cases h1
      · cases h1
    · have hjl : j < l.length := (List.getElem?_eq_some_iff.1 hj).1
      have h5 := (h3 j hjl).resolve_left hne
      rw [hj] at h5
      simp only [Bool.and_eq_true, bne_iff_ne, ne_eq, Bool.or_eq_true, Bool.not_eq_true', ← Bool.not_eq_true, List.contains_iff_mem] at h5
      exact ⟨h5.1, fun hd => h5.2.resolve_left fun hn => hn hd⟩
  · cases h

/-- The checks: all that stands ahead has a smaller number; the operations from nA on wait for all that have smaller numbers; of the others none is written twice, and what one reads of another one stands ahead of it, or is written behind. -/
def chkDraw (ops : List Oper) (l : List VO) (nA : Nat) : Bool :=
  let m := cls ops
  let n := ops.length
  decide (nA ≤ n) &&
  ((List.range n).all fun i => (match ops[i]? with | some o => (preds o).all (· < i) | none => false)) &&
  ((List.range n).all fun j => decide (j < nA) || earlyOp ops m l nA j || (List.range j).all fun k => (m.getD j 0).testBit k || (freeOp m l nA k && (match l[j]?, l[k]? with
    | some v, some u => (match u.dst with | some d => !v.rd.contains d | none => false)
    | _, _ => false))) &&
  ((List.range nA).all fun i => (match l[i]? with
    | some v => (List.range nA).all fun j => (match l[j]? with
      | some u => (match u.dst with
        | some d => (if v.rd.contains d then ((m.getD i 0).testBit j || (m.getD j 0).testBit i) else true) && (i == j || v.dst != some d)
        | none => true)
      | none => false)
    | none => false))

/-- It changes no object. -/
def quiet (P : Program) (o : VOp) (e : Env) (H : List Ob) (k : TV → Prop) : Prop := match o with
  | .p o => pop o e H k
  | .s (.call f args) => (∀ x ∈ args, isTup (x.ev e) = false) ∧ ∃ x, VCalls P f (args.map (·.ev e)) H (fun y H' => y = x ∧ H' = H) ∧ k x
  | _ => False
def vq (P : Program) : List VO → (Env → Prop) → Env → List Ob → Prop
  | [], K, e, H => K e
  | o :: r, K, e, H => match o.g with
    | none => quiet P o.op e H fun x => vq P r K (putE e o.dst x) H
    | some (s, b) => match get e s with
      | .val v => if isB v = some b then quiet P o.op e H fun x => vq P r K (putE e o.dst x) H else vq P r K (putE e o.dst (.val undef)) H
      | _ => False

/-- The operation yields x, by what the slots hold. -/
def Qt (P : Program) (o : VOp) (e : Env) (H : List Ob) (x : TV) : Prop := match o with
  | .p o => ∀ K : TV → Prop, K x → pop o e H K
  | .s (.call f args) => (∀ y ∈ args, isTup (y.ev e) = false) ∧ VCalls P f (args.map (·.ev e)) H fun y H' => y = x ∧ H' = H
  | _ => False
def Okq (P : Program) (o : VO) (e : Env) (H : List Ob) (x : TV) : Prop := match o.g with
  | none => Qt P o.op e H x
  | some (s, b) => match get e s with
    | .val v => if isB v = some b then Qt P o.op e H x else x = .val undef
    | _ => False

theorem Qt_congr {P : Program} {o : VOp} {e e' : Env} {H : List Ob} {x : TV} (h : ∀ s ∈ (match o with | .p o => o.rd | .s o => o.rd), get e s = get e' s) (hq : Qt P o e H x) : Qt P o e' H x := by
  cases o with
  | p o => exact fun K hK => by rw [← pop_congr h]; exact hq K hK
  | s o =>
    cases o with
    | call f args =>
      obtain ⟨h1, h2⟩ := hq
      have hm := map_ev_congr (xs := args) h
      refine ⟨fun y hy => ?_, ?_⟩
      · rw [← ev_congr (e := e) (e' := e') fun s hs => h s (List.mem_flatMap.2 ⟨y, hy, hs⟩)]; exact h1 y hy
      · rw [← hm]; exact h2
    | _ => exact hq
theorem Okq_congr {P : Program} {o : VO} {e e' : Env} {H : List Ob} {x : TV} (h : ∀ s ∈ o.rd, get e s = get e' s) (hq : Okq P o e H x) : Okq P o e' H x := by
  have h1 : ∀ s ∈ (match o.op with | .p o => o.rd | .s o => o.rd), get e s = get e' s := fun s hs => h s (List.mem_append_left _ hs)
  unfold Okq at hq ⊢
  cases hg : o.g with
  | none => rw [hg] at hq; exact Qt_congr h1 hq
  | some sb =>
    obtain ⟨s, b⟩ := sb
    rw [hg] at hq
    have h2 : get e s = get e' s := h s (List.mem_append_right _ (by rw [hg]; simp))
    simp only [h2] at hq ⊢
    split at hq
    · split at hq
      · rename_i ht; rw [if_pos ht]; exact Qt_congr h1 hq
      · rename_i ht; rw [if_neg ht]; exact hq
    · exact hq.elim

def putAll (e : Env) : List VO → List TV → Env
  | o :: r, x :: xs => putAll (putE e o.dst x) r xs
  | _, _ => e

theorem quiet_det {P : Program} {o : VOp} {e : Env} {H : List Ob} {k : TV → Prop} (h : quiet P o e H k) : ∃ x, Qt P o e H x ∧ k x := by
  cases o with
  | p o => exact pop_det h
  | s o =>
    cases o with
    | call f args => obtain ⟨h1, x, h2, h3⟩ := h; exact ⟨x, ⟨h1, h2⟩, h3⟩
    | _ => exact h.elim

/-- The results of a run in the text's order. -/
theorem vq_run {P : Program} {H : List Ob} : ∀ {l : List VO} {K : Env → Prop} {e : Env}, vq P l K e H → ∃ xs : List TV, xs.length = l.length ∧ K (putAll e l xs) ∧
    ∀ (i : Nat) o x, l[i]? = some o → xs[i]? = some x → Okq P o (putAll e (l.take i) (xs.take i)) H x
  | [], K, e, h => ⟨[], rfl, h, by simp⟩
  | o :: r, K, e, h => by
    have go : ∀ x, vq P r K (putE e o.dst x) H → Okq P o e H x → ∃ xs : List TV, xs.length = (o :: r).length ∧ K (putAll e (o :: r) xs) ∧ ∀ (i : Nat) o' x, (o :: r)[i]? = some o' → xs[i]? = some x → Okq P o' (putAll e ((o :: r).take i) (xs.take i)) H x := fun x h1 h2 => by
      obtain ⟨xs, k1, k2, k3⟩ := vq_run h1
      refine ⟨x :: xs, by simp [k1], k2, ?_⟩
      intro i o' y ho hx
      cases i with
      | zero => simp at ho hx; subst ho; subst hx; exact h2
      | succ i => exact k3 i o' y (by simpa using ho) (by simpa using hx)
    rw [vq] at h
    cases hg : o.g with
    | none =>
      rw [hg] at h
      obtain ⟨x, h1, h2⟩ := quiet_det h
      exact go x h2 (by unfold Okq; rw [hg]; exact h1)
    | some sb =>
      obtain ⟨s, b⟩ := sb
      rw [hg] at h
      simp only at h
      split at h
      · rename_i t ht
        by_cases htb : isB t = some b
        · rw [if_pos htb] at h
          obtain ⟨x, h1, h2⟩ := quiet_det h
          exact go x h2 (by unfold Okq; rw [hg]; simp only [ht, htb, if_true]; exact h1)
        · rw [if_neg htb] at h
          exact go (.val undef) h (by unfold Okq; rw [hg]; simp only [ht, htb, if_false])
      · exact h.elim

/-- What a slot holds behind. -/
theorem get_putAll_none {s : Nat} : ∀ {l : List VO} {xs : List TV} {e : Env}, (∀ (j : Nat) o, l[j]? = some o → o.dst ≠ some s) → get (putAll e l xs) s = get e s
  | [], xs, e, _ => by cases xs <;> rfl
  | o :: r, [], e, _ => rfl
  | o :: r, x :: xs, e, h => by
    rw [putAll, get_putAll_none fun j o' ho => h (j + 1) o' (by simpa using ho)]
    have := h 0 o rfl
    cases hd : o.dst with
    | none => rfl
    | some d =>
      rw [hd] at this
      show get ((d, x) :: e) s = _
      rw [get_cons, if_neg (fun e => this (by rw [e]))]
theorem get_putAll_some {s : Nat} : ∀ {l : List VO} {xs : List TV} {e : Env} {i : Nat} {o : VO} {x : TV}, l[i]? = some o → xs[i]? = some x → o.dst = some s → (∀ (j : Nat) o', l[j]? = some o' → j ≠ i → o'.dst ≠ some s) → get (putAll e l xs) s = x
  | [], xs, e, i, o, x, h, _, _, _ => by simp at h
  | o' :: r, [], e, i, o, x, _, h, _, _ => by simp at h
  | o' :: r, y :: xs, e, i, o, x, ho, hx, hd, hu => by
    rw [putAll]
    cases i with
    | zero =>
      simp at ho hx; subst ho; subst hx
      rw [get_putAll_none fun j o2 ho2 => hu (j + 1) o2 (by simpa using ho2) (by omega), hd]
      show get ((s, y) :: e) s = y
      rw [get_cons, if_pos rfl]
    | succ i => exact get_putAll_some (by simpa using ho) (by simpa using hx) hd fun j o2 ho2 hj => hu (j + 1) o2 (by simpa using ho2) (by omega)

/-! In any order. -/
section sound
variable {P : Program} {N : Nat} {D : List Deferred} {ro : Option Nat} {nn : Nat} {ops : List Oper} {l : List VO} {nA : Nat}

theorem trL_get {all : List Oper} : ∀ {os : List Oper} {l : List VO}, trL P N all os = some l → l.length = os.length ∧ ∀ (i : Nat) o, os[i]? = some o → ∃ v, l[i]? = some v ∧ trV P o.op = some v.op ∧ trG all o.guard = some v.g ∧ v.dst = o.dst ∧ o.dst.all (· < N) = true
  | [], l, h => by simp only [trL, Option.some.injEq] at h; subst h; simp
  | o :: os, l, h => by
    rw [trL] at h
    split at h
    · rename_i v g r hv hg hr
      split at h
      · rename_i hd
        cases h
        obtain ⟨h1, h2⟩ := trL_get hr
        refine ⟨by simp [h1], fun i o' ho => ?_⟩
        cases i with
        | zero => simp at ho; subst ho; exact ⟨_, rfl, hv, hg, rfl, hd⟩
        | succ i => simpa using h2 i o' (by simpa using ho)
      · cases h
    · cases h

/-- The checks, said. -/
structure Chk (ops : List Oper) (l : List VO) (nA : Nat) : Prop where
  le : nA ≤ ops.length
  lt : ∀ i o, ops[i]? = some o → ∀ p ∈ preds o, p < i
  wait : ∀ j, j < ops.length → nA ≤ j → earlyOp ops (cls ops) l nA j ≠ true → ∀ k, k < j → ((cls ops).getD j 0).testBit k = true ∨ (freeOp (cls ops) l nA k = true ∧ ∀ v u d, l[j]? = some v → l[k]? = some u → u.dst = some d → ¬ d ∈ v.rd)
  read : ∀ i j v u d, i < nA → j < nA → l[i]? = some v → l[j]? = some u → u.dst = some d → d ∈ v.rd → ((cls ops).getD i 0).testBit j = true ∨ ((cls ops).getD j 0).testBit i = true
  once : ∀ i j v u d, i < nA → j < nA → l[i]? = some v → l[j]? = some u → u.dst = some d → v.dst = some d → i = j

theorem Chk.of (h : chkDraw ops l nA = true) : Chk ops l nA := by
  unfold chkDraw at h
  simp only [Bool.and_eq_true, decide_eq_true_eq, List.all_eq_true, List.mem_range, Bool.or_eq_true] at h
  obtain ⟨⟨⟨h1, h2⟩, h3⟩, h4⟩ := h
  refine ⟨h1, fun i o ho p hp => ?_, fun j hj hn he k hk => ?_, fun i j v u d hi hj hv hu hd hr => ?_, fun i j v u d hi hj hv hu hd hv2 => ?_⟩
  · have hi : i < ops.length := (List.getElem?_eq_some_iff.1 ho).1
    have := h2 i hi
    rw [ho] at this
    simp only [List.all_eq_true, decide_eq_true_eq] at this
    exact this p hp
  · rcases h3 j hj with (h | h) | h
    · omega
    · exact absurd h he
    · rcases h k hk with h | ⟨h, h'⟩
      · exact .inl h
      · refine .inr ⟨h, fun v u d hv hu hd => ?_⟩
        rw [hv, hu] at h'
        simp only [hd] at h'
        simpa using h'
  · have := h4 i hi
    rw [hv] at this
    simp only [List.all_eq_true, List.mem_range] at this
    have := this j hj
    rw [hu] at this
    simp only [hd, Bool.and_eq_true] at this
    have hc : v.rd.contains d = true := by simpa using hr
    rw [if_pos hc] at this
    simpa using this.1
  · have := h4 i hi
    rw [hv] at this
    simp only [List.all_eq_true, List.mem_range] at this
    have := this j hj
    rw [hu] at this
    simp only [hd, Bool.and_eq_true, Bool.or_eq_true, beq_iff_eq, bne_iff_ne] at this
    rcases this.2 with h | h
    · exact h
    · exact absurd hv2 h

theorem mem_ready {ops : List Oper} {L : Array Bool} {i : Nat} (h : i ∈ Region.ready .any ops.toArray L) : ∃ o, ops[i]? = some o ∧ L.getD i true = false ∧ ∀ p ∈ preds o, L.getD p false = true := by
  unfold Region.ready at h
  simp only [List.mem_filter, List.mem_range, Bool.and_eq_true, Bool.not_eq_true'] at h
  obtain ⟨h1, h2, h3⟩ := h
  have hi : i < ops.length := by simpa using h1
  refine ⟨ops[i], by simp [hi], h2, fun p hp => ?_⟩
  simp only [List.getElem?_toArray, List.getElem?_eq_getElem hi, Option.map_some, Option.getD_some, Array.all_eq_true] at h3
  unfold preds at hp
  obtain ⟨e, he, rfl⟩ := List.mem_map.1 hp
  obtain ⟨he1, he2⟩ := List.mem_filter.1 he
  obtain ⟨k, hk, hke⟩ := List.mem_iff_getElem.1 he1
  have := h3 k (by simpa using hk)
  have hke' : ops[i].after[k]'(by simpa using hk) = e := by simpa using hke
  rw [hke', he2] at this
  simpa using this
theorem ready_of {ops : List Oper} {L : Array Bool} {i : Nat} {o : Oper} (ho : ops[i]? = some o) (h2 : L.getD i true = false) (h3 : ∀ p ∈ preds o, L.getD p false = true) : i ∈ Region.ready .any ops.toArray L := by
  have hi : i < ops.length := (List.getElem?_eq_some_iff.1 ho).1
  unfold Region.ready
  simp only [List.mem_filter, List.mem_range, Bool.and_eq_true, Bool.not_eq_true']
  refine ⟨by simpa using hi, h2, ?_⟩
  simp only [List.getElem?_toArray, ho, Option.map_some, Option.getD_some, Array.all_eq_true]
  intro k hk
  rw [Bool.or_eq_true]
  by_cases hb : Region.binds .any o.after[k] = true
  · right
    refine h3 _ ?_
    unfold preds
    exact List.mem_map.2 ⟨o.after[k], List.mem_filter.2 ⟨by simp, hb⟩, rfl⟩
  · left; simpa using hb

/-- What has been done. -/
structure Done (ops : List Oper) (L : Array Bool) : Prop where
  size : L.size = ops.length
  closed : Closed ops fun i => L.getD i false = true

theorem Done.set {L : Array Bool} (h : Done ops L) {i : Nat} (hr : i ∈ Region.ready .any ops.toArray L) : Done ops (L.setIfInBounds i true) := by
  obtain ⟨o, ho, h1, h2⟩ := mem_ready hr
  have hi : i < L.size := by rw [h.size]; exact (List.getElem?_eq_some_iff.1 ho).1
  have hmono : ∀ p, L.getD p false = true → (L.setIfInBounds i true).getD p false = true := by
    intro p hp
    by_cases hpi : i = p
    · subst hpi; simp [hi]
    · rw [Array.getD_eq_getD_getElem?, Array.getElem?_setIfInBounds_ne hpi, ← Array.getD_eq_getD_getElem?]; exact hp
  refine ⟨by simp [h.size], fun j o' ho' hj p hp => ?_⟩
  by_cases hji : i = j
  · subst hji
    rw [ho] at ho'; cases ho'
    exact hmono p (h2 p hp)
  · refine hmono p (h.closed j o' ho' ?_ p hp)
    have hj' : (L.setIfInBounds i true).getD j false = true := hj
    rw [Array.getD_eq_getD_getElem?, Array.getElem?_setIfInBounds_ne hji, ← Array.getD_eq_getD_getElem?] at hj'
    exact hj'

theorem wait_all (hc : Chk ops l nA) {L : Array Bool} (hd : Done ops L) {i : Nat} (hr : i ∈ Region.ready .any ops.toArray L) {k : Nat} (hk : ((cls ops).getD i 0).testBit k = true) : L.getD k false = true := by
  obtain ⟨o, ho, _, h2⟩ := mem_ready hr
  have hi : i < (cls ops).length := by rw [cls_length]; exact (List.getElem?_eq_some_iff.1 ho).1
  have hm : (cls ops)[i]? = some ((cls ops).getD i 0) := by
    rw [List.getD_eq_getElem?_getD, List.getElem?_eq_getElem hi]; rfl
  exact cls_ok hm ho hd.closed h2 hk

theorem bit_lt (hc : Chk ops l nA) {i k : Nat} (hi : i < ops.length) (hk : ((cls ops).getD i 0).testBit k = true) : k < i := by
  have hi' : i < (cls ops).length := by rw [cls_length]; exact hi
  have hm : (cls ops)[i]? = some ((cls ops).getD i 0) := by
    rw [List.getD_eq_getElem?_getD, List.getElem?_eq_getElem hi']; rfl
  exact cls_ok (S := fun k => k < i) hm (List.getElem?_eq_getElem hi) (fun j o ho hj p hp => Nat.lt_trans (hc.lt j o ho p hp) hj) (hc.lt i _ (List.getElem?_eq_getElem hi)) hk

/-- How many are not done. -/
def undone (ops : List Oper) (L : Array Bool) : Nat := ((List.range ops.length).filter fun i => !L.getD i false).length
theorem undone_set {L : Array Bool} (hd : Done ops L) {i : Nat} (hr : i ∈ Region.ready .any ops.toArray L) : undone ops (L.setIfInBounds i true) + 1 = undone ops L := by
  obtain ⟨o, ho, h1, h2⟩ := mem_ready hr
  have hi : i < ops.length := (List.getElem?_eq_some_iff.1 ho).1
  have hiL : i < L.size := by rw [hd.size]; exact hi
  have h1' : L.getD i false = false := by
    rw [Array.getD_eq_getD_getElem?, Array.getElem?_eq_getElem hiL] at h1 ⊢; simpa using h1
  have key : ∀ (r : List Nat), r.Nodup → i ∈ r → (r.filter fun j => !(L.setIfInBounds i true).getD j false).length + 1 = (r.filter fun j => !L.getD j false).length := by
    intro r
    induction r with
    | nil => intro _ h; simp at h
    | cons j r ih =>
      intro hn hm
      rw [List.nodup_cons] at hn
      by_cases hji : i = j
      · subst hji
        have e1 : (L.setIfInBounds i true).getD i false = true := by simp [hiL]
        have e2 : r.filter (fun j => !(L.setIfInBounds i true).getD j false) = r.filter fun j => !L.getD j false := by
          apply List.filter_congr
          intro x hx
          have : i ≠ x := fun e => hn.1 (e ▸ hx)
          rw [Array.getD_eq_getD_getElem?, Array.getElem?_setIfInBounds_ne this, ← Array.getD_eq_getD_getElem?]
        rw [List.filter_cons, List.filter_cons, e1, e2, h1']; simp
      · have e1 : (L.setIfInBounds i true).getD j false = L.getD j false := by
          rw [Array.getD_eq_getD_getElem?, Array.getElem?_setIfInBounds_ne hji, ← Array.getD_eq_getD_getElem?]
        have := ih hn.2 ((List.mem_cons.1 hm).resolve_left hji)
        rw [List.filter_cons, List.filter_cons, e1]
        split
        · rw [List.length_cons, List.length_cons]; omega
        · exact this
  exact key _ List.nodup_range (by simpa using hi)

theorem first_ready (hc : Chk ops l nA) {L : Array Bool} (hd : Done ops L) (h0 : Region.ready .any ops.toArray L = []) : ∀ i, i < ops.length → L.getD i false = true := by
  intro i
  induction i using Nat.strongRecOn with
  | _ i ih =>
    intro hi
    by_cases h : L.getD i false = true
    · exact h
    · exfalso
      have hiL : i < L.size := by rw [hd.size]; exact hi
      have hr := ready_of (ops := ops) (L := L) (List.getElem?_eq_getElem hi) (by
        rw [Array.getD_eq_getD_getElem?, Array.getElem?_eq_getElem hiL] at h ⊢; simpa using h) fun p hp => ih p (hc.lt i _ (List.getElem?_eq_getElem hi) p hp) (Nat.lt_trans (hc.lt i _ (List.getElem?_eq_getElem hi) p hp) hi)
      rw [h0] at hr; simp at hr

/-- One operation, by what its slots hold. -/
theorem okq_step {all : List Oper} {o : Oper} {v : VO} (hv : trV P o.op = some v.op) (hg : trG all o.guard = some v.g) {β : Nat → Nat → Option (Nat × Nat)} {H : List Ob} {F : Nat → Prop} {w : World} {a : Act} {e : Env} (hs : Sim ⟨β, H, F⟩ w) (he : EnvOk ⟨β, H, F⟩ w e a) {x : TV} (h : Okq P v e H x)
    {KK : Act → World → Prop} {Q : Exit → Act → World → Prop} {i : Nat} (hi : all[i]? = some o)
    (hk : ∀ β' F' w' u, Sim ⟨β', H, F'⟩ w' → Later ⟨β, H, F⟩ w ⟨β', H, F'⟩ w' → Rep ⟨β', H, F'⟩ w' x u → KK (a.put o.dst u) w') : wpOpIn (fz ro) nn P all.toArray Q i KK a w := by
  have go : Qt P v.op e H x → o.wpIn (fz ro) nn P a w KK Q := fun hq => by
    have hvop : vop P v.op e H fun y H' => y = x ∧ H' = H := by
      obtain ⟨dst, op, g⟩ := v
      cases op with
      | p po =>
        show pop po e H fun y => y = x ∧ H = H
        exact hq _ ⟨rfl, rfl⟩
      | s so =>
        cases so with
        | call f args => exact hq
        | _ => exact hq.elim
    refine vop_sound hs he hv hvop o KK Q rfl (trV_nd hv) ?_ ro nn
    rintro y H' β' F' w' u ⟨rfl, rfl⟩ k1 k2 k3
    exact hk β' F' w' u k1 k2 k3
  unfold wpOpIn
  simp only [List.getElem?_toArray, hi]
  unfold Okq at h
  cases hog : o.guard with
  | none =>
    rw [hog] at hg
    simp only [trG, Option.some.injEq] at hg
    rw [← hg] at h
    have : Region.wanted o (yielded all.toArray a.tmps) = true := by simp [Region.wanted, hog]
    rw [if_pos this]
    exact (go h)
  | some jb =>
    obtain ⟨j, b⟩ := jb
    rw [hog] at hg
    simp only [trG] at hg
    split at hg
    · rename_i s hj
      simp only [Option.some.injEq] at hg
      rw [← hg] at h
      simp only at h
      split at h
      · rename_i t hgs
        have hy : yielded all.toArray a.tmps j = isB t := by
          have h9 := he.1 s
          rw [hgs, Rep.val] at h9
          rw [yielded_is (ops := all.toArray) (a := a) (by simpa using hj), h9]
        by_cases htb : isB t = some b
        · have : Region.wanted o (yielded all.toArray a.tmps) = true := by simp [Region.wanted, hog, hy, htb]
          rw [if_pos this]
          rw [if_pos htb] at h
          exact (go h)
        · have : ¬ (Region.wanted o (yielded all.toArray a.tmps) = true) := by simp [Region.wanted, hog, hy, htb]
          rw [if_neg this]
          rw [if_neg htb] at h
          subst h
          exact ⟨fun _ _ => trivial, hk β F w undef hs (Later.refl _ _) Rep.of_val⟩
      · exact h.elim
    · cases hg

theorem put_other {a : Act} {dst : Option Nat} {u : Value} {s : Nat} (h : dst ≠ some s) : (a.put dst u).tmps.getD s undef = a.tmps.getD s undef := by
  cases dst with
  | none => rfl
  | some d =>
    have : d ≠ s := fun e => h (by rw [e])
    show (a.tmps.setIfInBounds d u).getD s undef = _
    simp [Array.getElem?_setIfInBounds_ne this]
theorem put_same {a : Act} {d : Nat} {u : Value} (h : d < a.tmps.size) : (a.put (some d) u).tmps.getD d undef = u := by
  show (a.tmps.setIfInBounds d u).getD d undef = u
  simp [h]
theorem put_size {a : Act} {dst : Option Nat} {u : Value} : (a.put dst u).tmps.size = a.tmps.size := by cases dst <;> simp [Act.put]
theorem put_defers {a : Act} {dst : Option Nat} {u : Value} : (a.put dst u).defers = a.defers := by cases dst <;> rfl
theorem get_putE_other {e : Env} {dst : Option Nat} {x : TV} {s : Nat} (h : dst ≠ some s) : get (putE e dst x) s = get e s := by
  cases dst with
  | none => rfl
  | some d =>
    show get ((d, x) :: e) s = _
    rw [get_cons, if_neg (fun e => h (by rw [e]))]
theorem get_putE_same {e : Env} {d : Nat} {x : TV} : get (putE e (some d) x) d = x := by
  show get ((d, x) :: e) d = x
  rw [get_cons, if_pos rfl]

theorem not_of_ne {b : Bool} (h : b ≠ true) : b = false := by cases b <;> simp_all


/-! A block that nobody knows yet. -/
theorem Sim.extra {c : Ctx} {w : World} (hs : Sim c w) (o : Obj) : Sim c (w.alloc o) ∧ Later c w c (w.alloc o) := by
  have hm : Mono c w c (w.alloc o) := ⟨fun b hb => ⟨hb, alloc_old w o (hs.lt b hb)⟩, fun _ _ h => ⟨h, rfl⟩, fun b hb => shape_of_block (alloc_old w o hb)⟩
  refine ⟨⟨fun id ob ho => ObIs.mono hm (Ctx.has_of ho) (fun hl b off hb => alloc_old w o (hs.own_lt (Ctx.own_of ho hl hb))) (hs.ob id ob ho), hs.inj, hs.apart, fun b hb => ?_, hs.glob.keep hm.stay⟩, ⟨rfl, rfl, rfl, by simp, hm.has, hm.shape, fun b hb _ => alloc_old w o hb, fun _ h => h, fun _ _ h => .inl h, fun _ _ h => h⟩⟩
  have h1 := hs.lt b hb
  have h2 : w.heap.size ≤ (w.alloc o).heap.size := by simp
  omega
def AlwaysRep (z : TV) (vs : List Value) : Prop := ∀ (c : Ctx) (w : World), RepC c w z vs
theorem Sim.adopt {β : Nat → Nat → Option (Nat × Nat)} {H : List Ob} {F : Nat → Prop} {w : World} (hs : Sim ⟨β, H, F⟩ w) {z : TV} {vs : List Value} {b : Nat} {t : TypeId} (hz : AlwaysRep z vs) (hb : w.heap[b]? = some (.cells vs.toArray t (0, 0))) (h1 : ¬ Ctx.own ⟨β, H, F⟩ b) (h2 : ¬ F b) :
    Sim ⟨upd β H.length 0 (some (b, 0)), H ++ [.obj 0 z], F⟩ w ∧ Mono ⟨β, H, F⟩ w ⟨upd β H.length 0 (some (b, 0)), H ++ [.obj 0 z], F⟩ w ∧ ∀ b', Ctx.own ⟨upd β H.length 0 (some (b, 0)), H ++ [.obj 0 z], F⟩ b' → Ctx.own ⟨β, H, F⟩ b' ∨ b' = b := by
  have hm := mono_new hs (.obj 0 z) (some (b, 0)) w (fun _ _ => rfl)
  have hget : ∀ id y, (H ++ [Ob.obj 0 z])[id]? = some y → (id < H.length ∧ H[id]? = some y) ∨ (id = H.length ∧ y = .obj 0 z) := by
    intro id y h
    rcases Nat.lt_trichotomy id H.length with h1 | h1 | h1
    · exact .inl ⟨h1, by rwa [List.getElem?_append_left h1] at h⟩
    · subst h1; simp at h; exact .inr ⟨rfl, h.symm⟩
    · rw [List.getElem?_eq_none (by simp; omega)] at h; cases h
  have hβ : ∀ id y, H[id]? = some y → upd β H.length 0 (some (b, 0)) id y.ver = β id y.ver := fun id y h => (hm.has id y.ver ⟨y, h, Nat.le_refl _⟩).2
  have hown : ∀ b', Ctx.own ⟨upd β H.length 0 (some (b, 0)), H ++ [.obj 0 z], F⟩ b' → Ctx.own ⟨β, H, F⟩ b' ∨ b' = b := by
    rintro b' ⟨id, y, off, h1, h2, h3⟩
    rcases hget id y h1 with ⟨h4, h5⟩ | ⟨rfl, rfl⟩
    · exact .inl ⟨id, y, off, h5, h2, by show β id y.ver = _; rw [← hβ id y h5]; exact h3⟩
    · right
      have h3' : upd β H.length 0 (some (b, 0)) H.length 0 = some (b', off) := h3
      rw [upd_same] at h3'; cases h3'; rfl
  refine ⟨⟨fun id y hy => ?_, fun i j x y b' o1 o2 hx hy hlx hly e1 e2 => ?_, fun b' hb' hF => ?_, hs.lt, hs.glob⟩, hm, hown⟩
  · rcases hget id y hy with ⟨h4, h5⟩ | ⟨rfl, rfl⟩
    · exact ObIs.mono hm ⟨y, h5, Nat.le_refl _⟩ (fun _ _ _ _ => rfl) (hs.ob id y h5)
    · exact .inr ⟨b, 0, [], vs, [], t, (0, 0), upd_same, by simpa using hb, bare0 _, rfl, hz _ _⟩
  · have e1' : upd β H.length 0 (some (b, 0)) i x.ver = some (b', o1) := e1
    have e2' : upd β H.length 0 (some (b, 0)) j y.ver = some (b', o2) := e2
    rcases hget i x hx with ⟨h4, h5⟩ | ⟨rfl, rfl⟩ <;> rcases hget j y hy with ⟨k4, k5⟩ | ⟨rfl, rfl⟩
    · rw [hβ i x h5] at e1'; rw [hβ j y k5] at e2'
      exact hs.inj i j x y b' o1 o2 h5 k5 hlx hly e1' e2'
    · exfalso
      have e3 : upd β H.length 0 (some (b, 0)) H.length 0 = some (b', o2) := e2'
      rw [upd_same] at e3; cases e3
      rw [hβ i x h5] at e1'
      exact h1 ⟨i, x, o1, h5, hlx, e1'⟩
    · exfalso
      have e3 : upd β H.length 0 (some (b, 0)) H.length 0 = some (b', o1) := e1'
      rw [upd_same] at e3; cases e3
      rw [hβ j y k5] at e2'
      exact h1 ⟨j, y, o2, k5, hly, e2'⟩
    · rfl
  · rcases hown b' hb' with h | h
    · exact hs.apart b' h hF
    · subst h; exact h2 hF
theorem Later.adopt {c0 : Ctx} {w0 w : World} {β : Nat → Nat → Option (Nat × Nat)} {H : List Ob} {F : Nat → Prop} (hl : Later c0 w0 ⟨β, H, F⟩ w) {c' : Ctx} {b : Nat} (hb : w0.heap.size ≤ b) (hF : c'.F = F) (hm : Mono ⟨β, H, F⟩ w c' w) (ho : ∀ b', c'.own b' → Ctx.own ⟨β, H, F⟩ b' ∨ b' = b) : Later c0 w0 c' w where
  os := hl.os
  tape := hl.tape
  output := hl.output
  size := hl.size
  has id ver hh := ⟨(hm.has id ver (hl.has id ver hh).1).1, (hm.has id ver (hl.has id ver hh).1).2.trans (hl.has id ver hh).2⟩
  shape := hl.shape
  same := hl.same
  keepF b' hb' := by rw [hF]; exact hl.keepF b' hb'
  oldF b' hlt h := hl.oldF b' hlt (by rw [hF] at h; exact h)
  oldOwn b' hlt h := hl.oldOwn b' hlt ((ho b' h).resolve_right fun e => by omega)

/-- What was made ahead of its turn. -/
def Earl (ops : List Oper) (l : List VO) (nA m : Nat) (L : Array Bool) (w0 : World) (c : Ctx) (w : World) (a : Act) : Prop :=
  ∃ bl : Nat → Nat, (∀ i d z, m ≤ i → earlyOp ops (cls ops) l nA i = true → L.getD i false = true → l[i]? = some ⟨some d, .s (.alloc z), none⟩ →
      a.tmps.getD d undef = .pointer (some ⟨bl i, 0, none⟩) ∧ (∃ vs t, w.heap[bl i]? = some (.cells vs.toArray t (0, 0)) ∧ AlwaysRep z vs) ∧ w0.heap.size ≤ bl i ∧ ¬ c.own (bl i) ∧ ¬ c.F (bl i)) ∧
    ∀ i j, m ≤ i → m ≤ j → earlyOp ops (cls ops) l nA i = true → earlyOp ops (cls ops) l nA j = true → L.getD i false = true → L.getD j false = true → bl i = bl j → i = j
theorem Earl.empty {ops : List Oper} {l : List VO} {nA m : Nat} {L : Array Bool} {w0 : World} {c : Ctx} {w : World} {a : Act} (h : ∀ i, m ≤ i → earlyOp ops (cls ops) l nA i = true → L.getD i false ≠ true) : Earl ops l nA m L w0 c w a :=
  ⟨fun _ => 0, fun i d z h1 h2 h3 => absurd h3 (h i h1 h2), fun i j h1 _ h2 _ h3 => absurd h3 (h i h1 h2)⟩
/-- Another operation is done. -/
theorem Earl.step {ops : List Oper} {l : List VO} {nA m m' i0 : Nat} {L : Array Bool} {w0 w w' : World} {c c' : Ctx} {a : Act} {dst : Option Nat} {u : Value} (h : Earl ops l nA m L w0 c w a) (hl : Later c w c' w') (hmm : m ≤ m')
    (hne : ∀ i d z, m' ≤ i → earlyOp ops (cls ops) l nA i = true → l[i]? = some ⟨some d, .s (.alloc z), none⟩ → (L.setIfInBounds i0 true).getD i false = true → dst ≠ some d) (hi0 : m' ≤ i0 → earlyOp ops (cls ops) l nA i0 ≠ true) :
    Earl ops l nA m' (L.setIfInBounds i0 true) w0 c' w' (a.put dst u) := by
  obtain ⟨bl, h1, h2⟩ := h
  have hL : ∀ i, m' ≤ i → earlyOp ops (cls ops) l nA i = true → (L.setIfInBounds i0 true).getD i false = true → L.getD i false = true := by
    intro i hi he hh
    by_cases e : i0 = i
    · subst e; exact absurd he (hi0 hi)
    · rw [Array.getD_eq_getD_getElem?, Array.getElem?_setIfInBounds_ne e, ← Array.getD_eq_getD_getElem?] at hh; exact hh
  refine ⟨bl, fun i d z hi he hLi hz => ?_, fun i j hi hj he1 he2 hLi hLj e => h2 i j (by omega) (by omega) he1 he2 (hL i hi he1 hLi) (hL j hj he2 hLj) e⟩
  obtain ⟨k1, ⟨vs, t, k2, k3⟩, k4, k5, k6⟩ := h1 i d z (by omega) he (hL i hi he hLi) hz
  have hlt : bl i < w.heap.size := (Array.getElem?_eq_some_iff.1 k2).1
  refine ⟨by rw [put_other (hne i d z hi he hz hLi)]; exact k1, ⟨vs, t, by rw [hl.same _ hlt k5]; exact k2, k3⟩, k4, fun ho => k5 (hl.oldOwn _ hlt ho), fun hF => (hl.oldF _ hlt hF).elim k6 k5⟩
/-- One more is made ahead of its turn. -/
theorem Earl.more {ops : List Oper} {l : List VO} {nA m i0 : Nat} {L : Array Bool} {w0 w : World} {c : Ctx} {a : Act} {d0 : Nat} {z0 : TV} {vs : List Value} {t : TypeId} (hsm : Sim c w) (h : Earl ops l nA m L w0 c w a) (hsz : w0.heap.size ≤ w.heap.size) (hz0 : l[i0]? = some ⟨some d0, .s (.alloc z0), none⟩) (he0 : earlyOp ops (cls ops) l nA i0 = true) (hr : AlwaysRep z0 vs) (hd0 : d0 < a.tmps.size) :
    Earl ops l nA m (L.setIfInBounds i0 true) w0 c (w.alloc (.cells vs.toArray t (0, 0))) (a.put (some d0) (.pointer (some ⟨w.heap.size, 0, none⟩))) := by
  obtain ⟨bl, h1, h2⟩ := h
  have hL : ∀ i, i ≠ i0 → (L.setIfInBounds i0 true).getD i false = true → L.getD i false = true := by
    intro i e hh
    rw [Array.getD_eq_getD_getElem?, Array.getElem?_setIfInBounds_ne (Ne.symm e), ← Array.getD_eq_getD_getElem?] at hh; exact hh
  have hlt : ∀ i, m ≤ i → earlyOp ops (cls ops) l nA i = true → L.getD i false = true → bl i < w.heap.size := by
    intro i hi he hLi
    obtain ⟨d, z, hz, _⟩ := earlyOp_spec he
    obtain ⟨_, ⟨vs, t, k2, _⟩, _⟩ := h1 i d z hi he hLi hz
    exact (Array.getElem?_eq_some_iff.1 k2).1
  refine ⟨fun k => if k = i0 then w.heap.size else bl k, fun i d z hi he hLi hz => ?_, fun i j hi hj he1 he2 hLi hLj e => ?_⟩
  · by_cases e : i = i0
    · subst e
      rw [hz0] at hz; cases hz
      simp only [if_true]
      exact ⟨put_same hd0, ⟨vs, t, getElem?_alloc_new w _, hr⟩, hsz, fun ho => Nat.lt_irrefl _ (hsm.own_lt ho), fun hF => Nat.lt_irrefl _ (hsm.lt _ hF)⟩
    · simp only [if_neg e]
      obtain ⟨k1, ⟨vs', t', k2, k3⟩, k4, k5, k6⟩ := h1 i d z hi he (hL i e hLi) hz
      obtain ⟨d', z', hz', _, _, hn⟩ := earlyOp_spec he
      rw [hz] at hz'; cases hz'
      refine ⟨?_, ⟨vs', t', by rw [alloc_old w _ (hlt i hi he (hL i e hLi))]; exact k2, k3⟩, k4, k5, k6⟩
      rw [put_other (fun h9 => (hn i0 _ hz0 (Ne.symm e)).1 h9)]; exact k1
  · by_cases e1 : i = i0 <;> by_cases e2 : j = i0
    · rw [e1, e2]
    · simp only [if_pos e1, if_neg e2] at e
      have := hlt j hj he2 (hL j e2 hLj); omega
    · simp only [if_neg e1, if_pos e2] at e
      have := hlt i hi he1 (hL i e1 hLi); omega
    · simp only [if_neg e1, if_neg e2] at e
      exact h2 i j hi hj he1 he2 (hL i e1 hLi) (hL j e2 hLj) e

/-- A new block, made at once. -/
theorem alloc_raw {o : Oper} {t : TypeId} (ho : o.op = .alloc t) {z : TV} (ht : trV P o.op = some (.s (.alloc z))) {a : Act} {w : World} {KK : Act → World → Prop} {Q : Exit → Act → World → Prop}
    (hk : ∀ vs t', AlwaysRep z vs → KK (a.put o.dst (.pointer (some ⟨w.heap.size, 0, none⟩))) (w.alloc (.cells vs.toArray t' (0, 0)))) : OW P o a w KK Q := by
  refine OW.of_wp (by rw [ho]; intro c h; cases h) ?_
  rw [ho] at ht
  simp only [trV, trP] at ht
  obtain ⟨so, ht, e⟩ := Option.map_eq_some_iff.1 ht
  have e' : so = .alloc z := by simpa using e
  subst e'
  simp only [trS] at ht
  split at ht
  · rename_i i h1
    split at ht
    · rename_i z0 h2
      obtain ⟨x, h3, e⟩ := Option.map_eq_some_iff.1 ht
      split at e
      · cases e
      cases e
      have hr : AlwaysRep z z0.cells.toList := fun c w => (zT_spec h3).1
      have := hk z0.cells.toList t hr
      rw [Array.toArray_toList] at this
      have hrun : (execOp a.eval o).run P w = .ok (.value (.pointer (some ⟨w.heap.size, 0, none⟩))) (w.alloc (.cells z0.cells t (0, 0))) := by
        simp [execOp, ho, Instr.alloc, zeroValue, typeInfo, h1, h2, newVar, newRow, newObj, Sem.run]
      unfold Oper.wp
      rw [hrun]
      exact this
    · cases ht
  · cases ht

/-- What the slots hold in the second part: what looks at slots alone may still be to be done; some new objects may have been made. -/
structure InB (ops : List Oper) (l : List VO) (nA N : Nat) (D : List Deferred) (m : Nat) (e : Env) (L : Array Bool) (w0 : World) (c : Ctx) (w : World) (a : Act) : Prop where
  rep : ∀ s, (∀ i v, freeOp (cls ops) l nA i = true → L.getD i false ≠ true → l[i]? = some v → v.dst ≠ some s) → (∀ i v, m ≤ i → earlyOp ops (cls ops) l nA i = true → L.getD i false = true → l[i]? = some v → v.dst ≠ some s) → Rep c w (get e s) (a.tmps.getD s undef)
  pend : ∀ i d o, freeOp (cls ops) l nA i = true → L.getD i false ≠ true → l[i]? = some ⟨some d, .p o, none⟩ → ∃ es : Env, (∀ s ∈ o.rd, get es s = get e s ∨ get es s = .any) ∧ ∀ K : TV → Prop, K (get e d) → pop o es c.H K
  earl : Earl ops l nA m L w0 c w a
  glob : GlobOk c.F w
  size : a.tmps.size = N
  defers : a.defers = D

theorem done_of_bit {L : Array Bool} (hd : Done ops L) {j i : Nat} (hj : j < ops.length) (hLj : L.getD j false = true) (hb : ((cls ops).getD j 0).testBit i = true) : L.getD i false = true := by
  have hjl : j < (cls ops).length := by rw [cls_length]; exact hj
  have hmj : (cls ops)[j]? = some ((cls ops).getD j 0) := by
    rw [List.getD_eq_getElem?_getD, List.getElem?_eq_getElem hjl]; rfl
  have hoj : ops[j]? = some ops[j] := List.getElem?_eq_getElem hj
  exact cls_ok hmj hoj hd.closed (hd.closed j _ hoj hLj) hb

/-- What was made ahead of its turn is taken up in its turn. -/
theorem InB.adopt (hc : Chk ops l nA) (hll : l.length = ops.length) {c0 : Ctx} {w0 : World} {L : Array Bool} (hd : Done ops L) : ∀ (k m : Nat), ops.length - m = k → ∀ {K : Env → List Ob → Prop} {e : Env} {H : List Ob} {β : Nat → Nat → Option (Nat × Nat)} {F : Nat → Prop} {w : World} {a : Act}, nA ≤ m → m ≤ ops.length →
    (∀ i, i < ops.length → nA ≤ i → (i < m → L.getD i false = true) ∧ (m ≤ i → L.getD i false = true → earlyOp ops (cls ops) l nA i = true)) →
    vops P (l.drop m) K e H → Sim ⟨β, H, F⟩ w → Later c0 w0 ⟨β, H, F⟩ w → InB ops l nA N D m e L w0 ⟨β, H, F⟩ w a →
    ∃ (m' : Nat) (e' : Env) (H' : List Ob) (β' : Nat → Nat → Option (Nat × Nat)), nA ≤ m' ∧ m' ≤ ops.length ∧ (m' < ops.length → L.getD m' false ≠ true) ∧ (∀ i, i < ops.length → nA ≤ i → (i < m' → L.getD i false = true) ∧ (m' ≤ i → L.getD i false = true → earlyOp ops (cls ops) l nA i = true)) ∧
      vops P (l.drop m') K e' H' ∧ Sim ⟨β', H', F⟩ w ∧ Later c0 w0 ⟨β', H', F⟩ w ∧ InB ops l nA N D m' e' L w0 ⟨β', H', F⟩ w a := by
  intro k
  induction k with
  | zero =>
    intro m hk K e H β F w a h1 h2 hL h hs hl hB
    exact ⟨m, e, H, β, h1, h2, fun h => by omega, hL, h, hs, hl, hB⟩
  | succ k ih =>
    intro m hk K e H β F w a h1 h2 hL h hs hl hB
    by_cases hLm : L.getD m false = true
    · have hml : m < ops.length := by omega
      have he := (hL m hml h1).2 (Nat.le_refl _) hLm
      obtain ⟨d, z, hz, _, _, hn⟩ := earlyOp_spec he
      have hdrop : l.drop m = ⟨some d, .s (.alloc z), none⟩ :: l.drop (m + 1) := by
        obtain ⟨hlt, e9⟩ := List.getElem?_eq_some_iff.1 hz
        rw [List.drop_eq_getElem_cons hlt, e9]
      rw [hdrop, vops] at h
      have h' : vops P (l.drop (m + 1)) K (putE e (some d) (.op H.length 0 [])) (H ++ [.obj 0 z]) := h
      obtain ⟨bl, b1, b2⟩ := hB.earl
      obtain ⟨k1, ⟨vs, t, k2, k3⟩, k4, k5, k6⟩ := b1 m d z (Nat.le_refl _) he hLm hz
      obtain ⟨s1, s2, s3⟩ := hs.adopt k3 k2 k5 k6
      refine ih (m + 1) (by omega) (by omega) (by omega) (fun i hi hni => ⟨fun him => ?_, fun him hLi => (hL i hi hni).2 (by omega) hLi⟩) h' s1 (hl.adopt k4 rfl s2 s3) ⟨fun s hs1 hs2 => ?_, fun i d' o hf hLi hi => ?_, ⟨bl, fun i d' z' him he' hLi hz' => ?_, fun i j hi hj => b2 i j (by omega) (by omega)⟩, hB.glob, hB.size, hB.defers⟩
      · by_cases e9 : i = m
        · subst e9; exact hLm
        · exact (hL i hi hni).1 (by omega)
      · by_cases e9 : d = s
        · subst e9
          rw [get_putE_same, k1]
          exact Rep.mk_op (has_new _ _ _ _ _ (Nat.le_refl _)) upd_same rfl
        · rw [get_putE_other (by simpa using e9)]
          refine Rep.mono s2 (hB.rep s hs1 fun i v him he' hLi hv => ?_)
          by_cases e8 : i = m
          · subst e8; rw [hz] at hv; cases hv; simpa using e9
          · exact hs2 i v (by omega) he' hLi hv
      · obtain ⟨d2, o2, f1, f2, f3, f4, f5⟩ := freeOp_spec hf
        rw [hi] at f1; cases f1
        have hmi : m ≠ i := by omega
        obtain ⟨es, p1, p2⟩ := hB.pend i d' o hf hLi hi
        have hcal : ∀ K : TV → Prop, K (get e d') → pop o es (H ++ [.obj 0 z]) K := calm_step (u := .s (.alloc z)) (e := e) (by
          rcases f3 m _ (by omega) hz with g | g | g
          · exact .inl g
          · exact absurd (done_of_bit hd (by omega) hLm g) hLi
          · exact .inr g) ⟨_, rfl⟩ p1 p2
        refine ⟨es, fun s hs' => ?_, fun K' hK' => hcal K' ?_⟩
        · rw [get_putE_other (by
            intro e8; cases e8
            have h7 := (hn i _ hi (Ne.symm hmi)).2 (by simpa [VO.rd] using hs')
            have := bit_lt hc (by have := (List.getElem?_eq_some_iff.1 hi).1; omega) h7; omega)]
          exact p1 s hs'
        · rwa [get_putE_other (by simpa using (f5 m _ d hz hmi rfl).1)] at hK'
      · obtain ⟨q1, ⟨vs', t', q2, q3⟩, q4, q5, q6⟩ := b1 i d' z' (by omega) he' hLi hz'
        refine ⟨q1, ⟨vs', t', q2, q3⟩, q4, fun ho => ?_, q6⟩
        rcases s3 _ ho with ho | ho
        · exact q5 ho
        · have := b2 i m (by omega) (Nat.le_refl _) he' he hLi hLm ho; omega
    · exact ⟨m, e, H, β, h1, h2, fun _ => hLm, hL, h, hs, hl, hB⟩

/-- The second part: one by one; what is free to be done at any time is done in between. -/
theorem draw_rest (hc : Chk ops l nA) (htr : trL P N ops ops = some l) {c0 : Ctx} {w0 : World} {QQ : Exit → Act → World → Prop} : ∀ (fuel m0 : Nat) {K : Env → List Ob → Prop} {e0 : Env} {H0 : List Ob} {β0 : Nat → Nat → Option (Nat × Nat)} {F : Nat → Prop} {w : World} {a : Act} {L : Array Bool}, nA ≤ m0 → m0 ≤ ops.length → Done ops L →
    (∀ i, i < ops.length → nA ≤ i → (i < m0 → L.getD i false = true) ∧ (m0 ≤ i → L.getD i false = true → earlyOp ops (cls ops) l nA i = true)) →
    (∀ i, i < nA → freeOp (cls ops) l nA i ≠ true → L.getD i false = true) → undone ops L ≤ fuel →
    vops P (l.drop m0) K e0 H0 → Sim ⟨β0, H0, F⟩ w → Later c0 w0 ⟨β0, H0, F⟩ w → InB ops l nA N D m0 e0 L w0 ⟨β0, H0, F⟩ w a →
    (∀ e' H' β' F' w' a', K e' H' → Sim ⟨β', H', F'⟩ w' → Fr N D ⟨β', H', F'⟩ w' e' a' → Later c0 w0 ⟨β', H', F'⟩ w' → QQ .normal a' w') → wpAnyIn (fz ro) nn P .any ops.toArray QQ fuel L a w := by
  obtain ⟨hll, hlg⟩ := trL_get htr
  have hle := hc.le
  have fin : ∀ {m : Nat} {K : Env → List Ob → Prop} {e : Env} {H : List Ob} {β : Nat → Nat → Option (Nat × Nat)} {F : Nat → Prop} {w : World} {a : Act} {L : Array Bool}, m ≤ ops.length → (m < ops.length → L.getD m false ≠ true) → (∀ i, i < ops.length → L.getD i false = true) →
      vops P (l.drop m) K e H → InB ops l nA N D m e L w0 ⟨β, H, F⟩ w a → K e H ∧ Fr N D ⟨β, H, F⟩ w e a := by
    intro m K e H β F w a L h2 hmL hall h hB
    have hm : m = ops.length := by
      rcases Nat.lt_or_ge m ops.length with hlt | hge
      · exact absurd (hall m hlt) (hmL hlt)
      · omega
    subst hm
    rw [List.drop_eq_nil_of_le (by omega)] at h
    refine ⟨h, ⟨⟨fun s => hB.rep s (fun i v hfi hLi hv _ => ?_) (fun i v him he _ hv _ => ?_), hB.glob⟩, hB.size, hB.defers⟩⟩
    · exact hLi (hall i (by rw [← hll]; exact (List.getElem?_eq_some_iff.1 hv).1))
    · have := (List.getElem?_eq_some_iff.1 hv).1; omega
  intro fuel
  induction fuel with
  | zero =>
    intro m0 K e0 H0 β0 F w a L h1 h2 hd hL hF hf h hs hl hB hk
    obtain ⟨m, e, H, β, h1, h2, hmL, hL, h, hs, hl, hB⟩ := InB.adopt hc hll hd _ m0 rfl h1 h2 hL h hs hl hB
    have hall : ∀ i, i < ops.length → L.getD i false = true := by
      intro i hi
      have h0 : undone ops L = 0 := by omega
      unfold undone at h0
      rw [List.length_eq_zero_iff, List.filter_eq_nil_iff] at h0
      have := h0 i (by simpa using hi)
      simpa using this
    obtain ⟨k1, k2⟩ := fin h2 hmL hall h hB
    refine ⟨?_, hk _ _ _ _ _ _ k1 hs k2 hl⟩
    rw [List.eq_nil_iff_forall_not_mem]
    intro i hi
    obtain ⟨o, ho, h3, _⟩ := mem_ready hi
    have hil : i < ops.length := (List.getElem?_eq_some_iff.1 ho).1
    have := hall i hil
    have hiL : i < L.size := by rw [hd.size]; exact hil
    rw [Array.getD_eq_getD_getElem?, Array.getElem?_eq_getElem hiL] at h3 this
    simp at h3 this; rw [h3] at this; cases this
  | succ fuel ih =>
    intro m0 K e0 H0 β0 F w a L h1 h2 hd hL hF hf h hs hl hB hk
    obtain ⟨m, e, H, β, h1, h2, hmL, hL, h, hs, hl, hB⟩ := InB.adopt hc hll hd _ m0 rfl h1 h2 hL h hs hl hB
    refine ⟨fun h0 => ?_, fun i hi => ?_⟩
    · obtain ⟨k1, k2⟩ := fin h2 hmL (first_ready hc hd h0) h hB
      exact hk _ _ _ _ _ _ k1 hs k2 hl
    · obtain ⟨o, ho, h3, h4⟩ := mem_ready hi
      have hil : i < ops.length := (List.getElem?_eq_some_iff.1 ho).1
      have hiL : i < L.size := by rw [hd.size]; exact hil
      have h3' : ¬ (L.getD i false = true) := by
        rw [Array.getD_eq_getD_getElem?, Array.getElem?_eq_getElem hiL] at h3 ⊢; simp at h3 ⊢; exact h3
      have hd' := hd.set hi
      have hu := undone_set hd hi
      have hmono : ∀ j, (L.setIfInBounds i true).getD j false = true → j = i ∨ L.getD j false = true := by
        intro j hj
        by_cases hij : i = j
        · exact .inl hij.symm
        · right
          rw [Array.getD_eq_getD_getElem?, Array.getElem?_setIfInBounds_ne hij, ← Array.getD_eq_getD_getElem?] at hj; exact hj
      have hkeep : ∀ j, L.getD j false = true → (L.setIfInBounds i true).getD j false = true := by
        intro j hj
        by_cases hij : i = j
        · subst hij; simp [hiL]
        · rw [Array.getD_eq_getD_getElem?, Array.getElem?_setIfInBounds_ne hij, ← Array.getD_eq_getD_getElem?]; exact hj
      have hset : (L.setIfInBounds i true).getD i false = true := by simp [hiL]
      obtain ⟨v, hv1, hv2, hv3, hv4, hv5⟩ := hlg i o ho
      have hd5 : v.dst.all (· < N) = true := by rw [hv4]; exact hv5
      have hF' : ∀ j, j < nA → freeOp (cls ops) l nA j ≠ true → (L.setIfInBounds i true).getD j false = true := fun j hj hfj => hkeep j (hF j hj hfj)
      rcases Nat.lt_or_ge i nA with hin | hin
      · -- one that is free
        have hfr : freeOp (cls ops) l nA i = true := by
          cases hb : freeOp (cls ops) l nA i with
          | true => rfl
          | false => exact absurd (hF i hin (by rw [hb]; simp)) h3'
        obtain ⟨d, po, e1, _, e2, e3, e4⟩ := freeOp_spec hfr
        obtain ⟨es, p1, hp⟩ := hB.pend i d po hfr h3' e1
        rw [hv1] at e1
        obtain rfl := Option.some.inj e1
        have hdN : d < a.tmps.size := by rw [hB.size]; simpa using hd5
        have hod : o.dst = some d := hv4.symm
        have hnearly : m ≤ i → earlyOp ops (cls ops) l nA i ≠ true := fun h => by omega
        refine okq_step (all := ops) (x := get e d) (e := forget po.rd es) hv2 hv3 hs ⟨fun s' => ?_, hs.glob⟩ ?_ ho ?_
        · rw [get_forget]
          split
          · rename_i hs'
            rcases p1 s' hs' with p1 | p1
            case inr => rw [p1]; exact Rep.any
            rw [p1]
            refine hB.rep s' (fun k vk hfk hLk hvk hdk => ?_) (fun k vk hmk hek hLk hvk hdk => ?_)
            · -- what it looks at stands ahead of it
              have hki : k ≠ i := fun h9 => by subst h9; rw [hv1] at hvk; cases hvk; cases hdk; exact e3 hs'
              obtain ⟨_, _, _, hkA, _⟩ := freeOp_spec hfk
              have hsrd : s' ∈ (VO.mk (some d) (.p po) none).rd := by simpa [VO.rd] using hs'
              rcases hc.read i k _ vk s' hin hkA hv1 hvk hdk hsrd with hb | hb
              · exact hLk (wait_all hc hd hi hb)
              · have hik := bit_lt hc (by omega) hb
                rcases (e4 k vk s' hvk hki hdk).2 with g | g | g
                · exact g hs'
                · omega
                · omega
            · obtain ⟨_, _, hz, _, _, hn⟩ := earlyOp_spec hek
              rw [hz] at hvk; cases hvk; cases hdk
              have hb := (hn i _ hv1 (by omega)).2 (by simpa [VO.rd] using hs')
              have := bit_lt hc hil hb; omega
          · exact Rep.any
        · show Qt P (.p po) _ H _
          intro KK hKK
          show pop po (forget po.rd es) H KK
          rw [pop_congr (e' := es) fun s hs' => by rw [get_forget, if_pos hs']]
          exact hp KK hKK
        · intro β' F' w' u hs' hl' hx
          have hm := hl'.mono hs
          refine ih m h1 h2 hd' (fun j hj hnj => ⟨fun hjm => hkeep j ((hL j hj hnj).1 hjm), fun hmj hh => (hL j hj hnj).2 hmj ((hmono j hh).resolve_left (by omega))⟩) hF' (by omega) h hs' (hl.trans hl') ⟨fun s hs1 hs2 => ?_, fun k dk ok hfk hLk hk' => ?_, ?_, hB.glob.keep hm.stay, by rw [put_size]; exact hB.size, by rw [put_defers]; exact hB.defers⟩ hk
          · by_cases hsd : d = s
            · subst hsd; rw [hod, put_same hdN]; exact hx
            · rw [put_other (by rw [hod]; simpa using hsd)]
              refine Rep.mono hm (hB.rep s (fun k vk hfk hLk hvk hdk => ?_) (fun k vk hmk hek hLk hvk => hs2 k vk hmk hek (hkeep k hLk) hvk))
              by_cases hki : k = i
              · subst hki; rw [hv1] at hvk; cases hvk; exact hsd (by simpa using hdk)
              · exact hs1 k vk hfk (fun hh => (hmono k hh).elim hki hLk) hvk hdk
          · exact hB.pend k dk ok hfk (fun hh => hLk (hkeep k hh)) hk'
          · refine hB.earl.step hl' (Nat.le_refl _) (fun k dk z hmk hek hz _ => ?_) hnearly
            obtain ⟨_, _, hz', _, _, hn⟩ := earlyOp_spec hek
            rw [hz] at hz'; cases hz'
            rw [hod]; exact (hn i _ hv1 (by omega)).1
      · have hnf : ∀ k, nA ≤ k → freeOp (cls ops) l nA k ≠ true := fun k hk hf' => by obtain ⟨_, _, _, h9, _⟩ := freeOp_spec hf'; omega
        have him : m ≤ i := by
          rcases Nat.lt_or_ge i m with h5 | h5
          · exact absurd ((hL i hil hin).1 h5) h3'
          · exact h5
        have hml : m < ops.length := by omega
        by_cases hieq : i = m
        · subst hieq
          have hdrop : l.drop i = v :: l.drop (i + 1) := by
            obtain ⟨hlt, rfl⟩ := List.getElem?_eq_some_iff.1 hv1
            rw [List.drop_eq_getElem_cons hlt]
          rw [hdrop, vops] at h
          have hL' : ∀ j, j < ops.length → nA ≤ j → (j < i + 1 → (L.setIfInBounds i true).getD j false = true) ∧ (i + 1 ≤ j → (L.setIfInBounds i true).getD j false = true → earlyOp ops (cls ops) l nA j = true) := by
            intro j hj hnj
            refine ⟨fun hji => ?_, fun hij hh => (hL j hj hnj).2 (by omega) ((hmono j hh).resolve_left (by omega))⟩
            by_cases e9 : j = i
            · subst e9; exact hset
            · exact hkeep j ((hL j hj hnj).1 (by omega))
          -- what it reads is neither to be done still nor made ahead
          have hread : ∀ s ∈ v.rd, (∀ k u, freeOp (cls ops) l nA k = true → L.getD k false ≠ true → l[k]? = some u → u.dst ≠ some s) ∧ (∀ k u, i ≤ k → earlyOp ops (cls ops) l nA k = true → L.getD k false = true → l[k]? = some u → u.dst ≠ some s) := by
            intro s hsr
            refine ⟨fun k u hfk hLk hu hud => ?_, fun k u hik hek hLk hu hud => ?_⟩
            · by_cases hea : earlyOp ops (cls ops) l nA i = true
              · obtain ⟨_, _, hz, _⟩ := earlyOp_spec hea
                rw [hv1] at hz; cases hz
                simp [VO.rd, SOp.rd] at hsr
              · obtain ⟨_, _, _, hkA, _⟩ := freeOp_spec hfk
                rcases hc.wait i hil hin hea k (by omega) with hw | ⟨_, hw⟩
                · exact hLk (wait_all hc hd hi hw)
                · exact hw v u s hv1 hu hud hsr
            · obtain ⟨_, _, hz, _, _, hn⟩ := earlyOp_spec hek
              rw [hz] at hu; cases hu; cases hud
              have hki : i ≠ k := fun h9 => h3' (h9 ▸ hLk)
              have := bit_lt hc hil ((hn i v hv1 hki).2 hsr); omega
          have hpdst : ∀ k dk ok, freeOp (cls ops) l nA k = true → L.getD k false ≠ true → l[k]? = some ⟨some dk, .p ok, none⟩ → v.dst ≠ some dk ∧ ∀ d, v.dst = some d → ¬ d ∈ ok.rd := by
            intro k dk ok hfk hLk hk'
            obtain ⟨dk', ok', f1, f0, f2, f3, f4⟩ := freeOp_spec hfk
            rw [hk'] at f1; cases f1
            refine ⟨fun hvd => (f4 i v dk hv1 (by omega) hvd).1 rfl, fun d hvd => ?_⟩
            rcases (f4 i v d hv1 (by omega) hvd).2 with g | g | ⟨_, g⟩
            · exact g
            · omega
            · exact absurd (wait_all hc hd hi g) hLk
          have step : ∀ {e : Env} {x : TV} {H' : List Ob} {β' : Nat → Nat → Option (Nat × Nat)} {F' : Nat → Prop} {w' : World} {u : Value}, InB ops l nA N D i e L w0 ⟨β, H, F⟩ w a → vops P (l.drop (i + 1)) K (putE e v.dst x) H' → Sim ⟨β', H', F'⟩ w' → Later ⟨β, H, F⟩ w ⟨β', H', F'⟩ w' → Rep ⟨β', H', F'⟩ w' x u → (H' = H ∨ HRel v.op e H H') → wpAnyIn (fz ro) nn P .any ops.toArray QQ fuel (L.setIfInBounds i true) (a.put o.dst u) w' := by
            intro e x H' β' F' w' u hB hK hs' hl' hx hrel
            have hm := hl'.mono hs
            rw [← hv4]
            refine ih (i + 1) (by omega) (by omega) hd' hL' hF' (by omega) hK hs' (hl.trans hl') ⟨fun s hs1 hs2 => ?_, fun k dk ok hfk hLk hk' => ?_, ?_, hB.glob.keep hm.stay, by rw [put_size]; exact hB.size, by rw [put_defers]; exact hB.defers⟩ hk
            · by_cases hvs : v.dst = some s
              · rw [hvs, get_putE_same, put_same (by rw [hB.size]; rw [hvs] at hd5; simpa using hd5)]; exact hx
              · rw [get_putE_other hvs, put_other hvs]
                refine Rep.mono hm (hB.rep s (fun k vk hfk hLk hvk hdk => hs1 k vk hfk (fun hh => (hmono k hh).elim (fun e => hnf i hin (e ▸ hfk)) hLk) hvk hdk) (fun k vk hmk hek hLk hvk => ?_))
                have hki : k ≠ i := fun h9 => h3' (h9 ▸ hLk)
                exact hs2 k vk (by omega) hek (hkeep k hLk) hvk
            · have hLk' : L.getD k false ≠ true := fun hh => hLk (hkeep k hh)
              obtain ⟨g1, g2⟩ := hpdst k dk ok hfk hLk' hk'
              obtain ⟨es, p1, p2⟩ := hB.pend k dk ok hfk hLk' hk'
              have hcal : ∀ K : TV → Prop, K (get e dk) → pop ok es H' K := by
                rcases hrel with rfl | hrel
                · exact p2
                · obtain ⟨dk', ok', f1, f0, f2, f3, f4⟩ := freeOp_spec hfk
                  rw [hk'] at f1; cases f1
                  refine calm_step (u := v.op) (e := e) ?_ hrel p1 p2
                  rcases f2 i v hin hv1 with g | g | g
                  · exact .inl g
                  · exact absurd (wait_all hc hd hi g) hLk'
                  · exact .inr g
              exact ⟨es, fun s hs' => by rw [get_putE_other fun h9 => g2 s h9 hs']; exact p1 s hs', fun K' hK' => hcal K' (by rwa [get_putE_other g1] at hK')⟩
            · refine hB.earl.step hl' (by omega) (fun k dk z hmk hek hz _ => ?_) (fun h9 => by omega)
              obtain ⟨_, _, hz', _, _, hn⟩ := earlyOp_spec hek
              rw [hz] at hz'; cases hz'
              exact (hn i v hv1 (by omega)).1
          have go : ∀ {e : Env}, InB ops l nA N D i e L w0 ⟨β, H, F⟩ w a → vop P v.op e H (fun x H => vops P (l.drop (i + 1)) K (putE e v.dst x) H) → o.wpIn (fz ro) nn P a w (wpAnyIn (fz ro) nn P .any ops.toArray QQ fuel (L.setIfInBounds i true)) QQ := fun {e} hB h => by
            replace h := vop_rel h
            rw [vop_congr (e' := forget v.rd e) fun s hs' => by rw [get_forget, if_pos hs']] at h
            have henv : EnvOk ⟨β, H, F⟩ w (forget v.rd e) a := ⟨fun s => by
              rw [get_forget]
              split
              · rename_i hs'; exact hB.rep s (hread s hs').1 (hread s hs').2
              · exact Rep.any, hs.glob⟩
            refine vop_sound hs henv hv2 h o _ QQ rfl (trV_nd hv2) ?_ ro nn
            intro x H' β' F' w' u hK hs' hl hx
            exact step hB hK.1 hs' hl hx (.inr hK.2)
          unfold wpOpIn
          simp only [List.getElem?_toArray, ho]
          cases hog : o.guard with
          | none =>
            rw [hog] at hv3
            simp only [trG, Option.some.injEq] at hv3
            rw [← hv3] at h
            have : Region.wanted o (yielded ops.toArray a.tmps) = true := by simp [Region.wanted, hog]
            rw [if_pos this]
            exact (go hB h)
          | some jb =>
            obtain ⟨j, b⟩ := jb
            rw [hog] at hv3
            simp only [trG] at hv3
            split at hv3
            · rename_i s hj
              simp only [Option.some.injEq] at hv3
              rw [← hv3] at h
              simp only at h
              have hsrd : s ∈ v.rd := by unfold VO.rd; rw [← hv3]; simp
              have hsr := hB.rep s (hread s hsrd).1 (hread s hsrd).2
              obtain ⟨e', hB', h⟩ : ∃ e', InB ops l nA N D i e' L w0 ⟨β, H, F⟩ w a ∧ (match isB (a.tmps.getD s undef) with
                  | some t => if t = b then vop P v.op e' H fun x H => vops P (l.drop (i + 1)) K (putE e' v.dst x) H else vops P (l.drop (i + 1)) K (putE e' v.dst (.val undef)) H
                  | none => vops P (l.drop (i + 1)) K (putE e' v.dst (.val undef)) H) := by
                unfold knowB at h
                split at h
                · rename_i v0 hv0
                  rw [hv0, Rep.val] at hsr
                  exact ⟨e, hB, by rw [hsr]; exact h⟩
                · rename_i hany
                  refine ⟨(s, .val (a.tmps.getD s undef)) :: e, ⟨fun s' hs1 hs2 => ?_, fun k dk ok hfk hLk hk' => ?_, hB.earl, hB.glob, hB.size, hB.defers⟩, ?_⟩
                  · rw [get_cons]
                    split
                    · rename_i hss; subst hss; exact Rep.of_val
                    · exact hB.rep s' hs1 hs2
                  · obtain ⟨es, p1, p2⟩ := hB.pend k dk ok hfk hLk hk'
                    refine ⟨es, fun s' hs' => ?_, fun K' hK' => p2 K' ?_⟩
                    · rw [get_cons]
                      split
                      · rename_i hss; subst hss
                        rcases p1 s hs' with p1 | p1
                        · exact .inr (p1.trans hany)
                        · exact .inr p1
                      · exact p1 s' hs'
                    · rwa [get_cons, if_neg (fun e => (hread s hsrd).1 k _ hfk hLk hk' (by rw [e]))] at hK'
                  · cases hb : isB (a.tmps.getD s undef) with
                    | none => exact h.2 _ hb
                    | some t =>
                      have : a.tmps.getD s undef = .bool t := by
                        generalize a.tmps.getD s undef = v at hb
                        cases v <;> simp [isB] at hb
                        rw [hb]
                      rw [this]; exact h.1 t
                · exact h.elim
              have hy : yielded ops.toArray a.tmps j = isB (a.tmps.getD s undef) := yielded_is (by simpa using hj)
              have skip : vops P (l.drop (i + 1)) K (putE e' v.dst (.val undef)) H → wpAnyIn (fz ro) nn P .any ops.toArray QQ fuel (L.setIfInBounds i true) (a.put o.dst undef) w := fun h => step hB' h hs (Later.refl _ _) Rep.of_val (.inl rfl)
              cases hq : isB (a.tmps.getD s undef) with
              | some t =>
                rw [hq] at h hy
                by_cases htb : t = b
                · subst htb
                  have : Region.wanted o (yielded ops.toArray a.tmps) = true := by simp [Region.wanted, hog, hy]
                  rw [if_pos this]
                  simp only [if_true] at h
                  exact (go hB' h)
                · have : ¬ (Region.wanted o (yielded ops.toArray a.tmps) = true) := by simp [Region.wanted, hog, hy, htb]
                  rw [if_neg this]
                  simp only [htb, if_false] at h
                  exact ⟨fun _ _ => trivial, skip h⟩
              | none =>
                rw [hq] at h hy
                have : ¬ (Region.wanted o (yielded ops.toArray a.tmps) = true) := by simp [Region.wanted, hog, hy]
                rw [if_neg this]
                exact ⟨fun _ _ => trivial, skip h⟩
            · cases hv3
        · -- made ahead of its turn
          have hea : earlyOp ops (cls ops) l nA i = true := by
            refine Classical.byContradiction fun hne => ?_
            have hmi : m < i := by omega
            rcases hc.wait i hil hin hne m hmi with hw | hw
            · exact hmL hml (wait_all hc hd hi hw)
            · exact hnf m h1 hw.1
          obtain ⟨d, z, hz, _, ⟨o', t, ho', hot⟩, hn⟩ := earlyOp_spec hea
          rw [ho] at ho'; cases ho'
          rw [hv1] at hz; cases hz
          have hod : o.dst = some d := hv4.symm
          have hdN : d < a.tmps.size := by rw [hB.size]; simpa using hd5
          have hg : o.guard = none := by
            cases hog : o.guard with
            | none => rfl
            | some jb => obtain ⟨j, b⟩ := jb; rw [hog] at hv3; simp only [trG] at hv3; split at hv3 <;> simp at hv3
          unfold wpOpIn
          simp only [List.getElem?_toArray, ho]
          have : Region.wanted o (yielded ops.toArray a.tmps) = true := by simp [Region.wanted, hg]
          rw [if_pos this]
          refine alloc_raw hot hv2 (fun vs t' hr => ?_) ro nn
          rw [hod]
          obtain ⟨s1, s2⟩ := hs.extra (.cells vs.toArray t' (0, 0))
          have hm := s2.mono hs
          refine ih m h1 h2 hd' (fun j hj hnj => ⟨fun hjm => hkeep j ((hL j hj hnj).1 hjm), fun hmj hh => (hmono j hh).elim (fun e => e ▸ hea) ((hL j hj hnj).2 hmj)⟩) hF' (by omega) h s1 (hl.trans s2) ⟨fun s hs1 hs2 => ?_, fun k dk ok hfk hLk hk' => hB.pend k dk ok hfk (fun hh => hLk (hkeep k hh)) hk', hB.earl.more hs hl.size hv1 hea hr hdN, hB.glob.keep hm.stay, by rw [put_size]; exact hB.size, by rw [put_defers]; exact hB.defers⟩ hk
          have hsd : d ≠ s := fun e9 => hs2 i _ him hea hset hv1 (by rw [e9])
          rw [put_other (by simpa using hsd)]
          exact Rep.mono hm (hB.rep s (fun k vk hfk hLk hvk => hs1 k vk hfk (fun hh => (hmono k hh).elim (fun e => hnf i hin (e ▸ hfk)) hLk) hvk) (fun k vk hmk hek hLk hvk => hs2 k vk hmk hek (hkeep k hLk) hvk))

/-- The first part: in any order. -/
structure InA (ops : List Oper) (l : List VO) (nA N : Nat) (D : List Deferred) (xs : List TV) (e0 : Env) (L : Array Bool) (w0 : World) (c : Ctx) (w : World) (a : Act) : Prop where
  did : ∀ i v x d, i < nA → L.getD i false = true → l[i]? = some v → xs[i]? = some x → v.dst = some d → Rep c w x (a.tmps.getD d undef)
  not : ∀ s, (∀ i v, i < nA → L.getD i false = true → l[i]? = some v → v.dst ≠ some s) → (∀ i v, nA ≤ i → earlyOp ops (cls ops) l nA i = true → L.getD i false = true → l[i]? = some v → v.dst ≠ some s) → Rep c w (get e0 s) (a.tmps.getD s undef)
  earl : Earl ops l nA nA L w0 c w a
  size : a.tmps.size = N
  defers : a.defers = D

theorem draw_first (hc : Chk ops l nA) (htr : trL P N ops ops = some l) {c0 : Ctx} {w0 : World} {QQ : Exit → Act → World → Prop} {K : Env → List Ob → Prop} {e0 : Env} {H : List Ob} {xs : List TV} (hxl : xs.length = nA) (hok : ∀ (i : Nat) o x, (l.take nA)[i]? = some o → xs[i]? = some x → Okq P o (putAll e0 ((l.take nA).take i) (xs.take i)) H x)
    (hK : vops P (l.drop nA) K (putAll e0 (l.take nA) xs) H) : ∀ (fuel : Nat) {β : Nat → Nat → Option (Nat × Nat)} {F : Nat → Prop} {w : World} {a : Act} {L : Array Bool}, Done ops L → undone ops L ≤ fuel →
    (∀ i, i < ops.length → nA ≤ i → L.getD i false = true → earlyOp ops (cls ops) l nA i = true) → Sim ⟨β, H, F⟩ w → Later c0 w0 ⟨β, H, F⟩ w → InA ops l nA N D xs e0 L w0 ⟨β, H, F⟩ w a →
    (∀ e' H' β' F' w' a', K e' H' → Sim ⟨β', H', F'⟩ w' → Fr N D ⟨β', H', F'⟩ w' e' a' → Later c0 w0 ⟨β', H', F'⟩ w' → QQ .normal a' w') → wpAnyIn (fz ro) nn P .any ops.toArray QQ fuel L a w := by
  obtain ⟨hll, hlg⟩ := trL_get htr
  have hle := hc.le
  have htl : (l.take nA).length = nA := by rw [List.length_take]; omega
  -- what the slots hold when all of the first part is done
  have hfin : ∀ (β : Nat → Nat → Option (Nat × Nat)) (F : Nat → Prop) (w : World) (a : Act) (L : Array Bool) (s : Nat), InA ops l nA N D xs e0 L w0 ⟨β, H, F⟩ w a → (∀ i v, nA ≤ i → earlyOp ops (cls ops) l nA i = true → L.getD i false = true → l[i]? = some v → v.dst ≠ some s) → (∀ j u, j < nA → l[j]? = some u → u.dst = some s → L.getD j false = true) → Rep ⟨β, H, F⟩ w (get (putAll e0 (l.take nA) xs) s) (a.tmps.getD s undef) := by
    intro β F w a L s hA hse hw
    by_cases hex : ∃ j u, j < nA ∧ l[j]? = some u ∧ u.dst = some s
    · obtain ⟨j, u, hj, hu, hus⟩ := hex
      have hxj : ∃ x, xs[j]? = some x := ⟨xs[j]'(by omega), by simp [show j < xs.length from by omega]⟩
      obtain ⟨x, hx⟩ := hxj
      have hu' : (l.take nA)[j]? = some u := by rw [List.getElem?_take, if_pos hj]; exact hu
      rw [get_putAll_some hu' hx hus fun j' o' ho' hne hd' => hne (by
        rw [List.getElem?_take] at ho'
        split at ho'
        · rename_i hj'; exact hc.once j' j o' u s hj' hj ho' hu hus hd'
        · cases ho')]
      exact hA.did j u x s hj (hw j u hj hu hus) hu hx hus
    · rw [get_putAll_none fun j o ho hd => hex ⟨j, o, by
        rw [List.getElem?_take] at ho
        split at ho
        · rename_i hj; exact ⟨hj, ho, hd⟩
        · cases ho⟩]
      exact hA.not s (fun i v hi _ hv hd => hex ⟨i, v, hi, hv, hd⟩) hse
  have toB : ∀ (β : Nat → Nat → Option (Nat × Nat)) (F : Nat → Prop) (w : World) (a : Act) (L : Array Bool), Done ops L → Sim ⟨β, H, F⟩ w → InA ops l nA N D xs e0 L w0 ⟨β, H, F⟩ w a → (∀ i, i < nA → freeOp (cls ops) l nA i ≠ true → L.getD i false = true) → InB ops l nA N D nA (putAll e0 (l.take nA) xs) L w0 ⟨β, H, F⟩ w a := by
    intro β F w a L hd hs hA hall
    refine ⟨fun s hsn hse => hfin β F w a L s hA hse fun j u hj hu hus => ?_, fun i d o hfi hLi hi => ?_, hA.earl, hs.glob, hA.size, hA.defers⟩
    · by_cases hLj : L.getD j false = true
      · exact hLj
      · by_cases hfj : freeOp (cls ops) l nA j = true
        · exact absurd hus (hsn j u hfj hLj hu)
        · exact hall j hj hfj
    · obtain ⟨d', o', f1, f0, f2, f3, f4⟩ := freeOp_spec hfi
      rw [hi] at f1; cases f1
      have hxi : xs[i]? = some (xs[i]'(by omega)) := by simp [show i < xs.length from by omega]
      generalize xs[i]'(by omega) = y at hxi
      have hit : (l.take nA)[i]? = some ⟨some d, .p o, none⟩ := by rw [List.getElem?_take, if_pos f0]; exact hi
      have hq : Qt P (.p o) (putAll e0 ((l.take nA).take i) (xs.take i)) H y := hok i _ y hit hxi
      have hgs := get_putAll_some (e := e0) hit hxi rfl fun j' o' ho' hne hd' => by
        rw [List.getElem?_take] at ho'
        split at ho'
        · exact (f4 j' o' d ho' hne hd').1 rfl
        · cases ho'
      refine ⟨putAll e0 ((l.take nA).take i) (xs.take i), fun s hs' => .inl ?_, fun K' hK' => ?_⟩
      · -- what it looks at is written by none behind it
        by_cases hex : ∃ j u, j < nA ∧ l[j]? = some u ∧ u.dst = some s
        · obtain ⟨j, u, hj, hu, hus⟩ := hex
          have hji : j ≠ i := fun h9 => by subst h9; rw [hi] at hu; cases hu; cases hus; exact f3 hs'
          have hjlt : j < i := by
            rcases (f4 j u s hu hji hus).2 with g | g | g
            · exact absurd hs' g
            · exact g
            · omega
          have honce : ∀ (j' : Nat) o', l[j']? = some o' → j' < nA → j' ≠ j → o'.dst ≠ some s := fun j' o' ho' hj' hne hd' => hne (hc.once j' j o' u s hj' hj ho' hu hus hd')
          have hxj : xs[j]? = some (xs[j]'(by omega)) := by simp [show j < xs.length from by omega]
          have hu' : (l.take nA)[j]? = some u := by rw [List.getElem?_take, if_pos hj]; exact hu
          rw [get_putAll_some (l := (l.take nA).take i) (i := j) (by rw [List.getElem?_take, if_pos hjlt]; exact hu') (by rw [List.getElem?_take, if_pos hjlt]; exact hxj) hus fun j' o' ho' hne => by
            rw [List.getElem?_take] at ho'
            split at ho'
            · rw [List.getElem?_take] at ho'
              split at ho'
              · rename_i hj'; exact honce j' o' ho' hj' hne
              · cases ho'
            · cases ho']
          rw [get_putAll_some hu' hxj hus fun j' o' ho' hne => by
            rw [List.getElem?_take] at ho'
            split at ho'
            · rename_i hj'; exact honce j' o' ho' hj' hne
            · cases ho']
        · rw [get_putAll_none fun j o' ho' hd' => hex ⟨j, o', by
            rw [List.getElem?_take] at ho'
            split at ho'
            · rw [List.getElem?_take] at ho'
              split at ho'
              · rename_i hj'; exact ⟨hj', ho', hd'⟩
              · cases ho'
            · cases ho'⟩]
          rw [get_putAll_none fun j o' ho' hd' => hex ⟨j, o', by
            rw [List.getElem?_take] at ho'
            split at ho'
            · rename_i hj'; exact ⟨hj', ho', hd'⟩
            · cases ho'⟩]
      · rw [hgs] at hK'
        exact hq K' hK'
  intro fuel
  induction fuel with
  | zero =>
    intro β F w a L hd hf hLA hs hl0 hA hk
    have hall : ∀ i, i < ops.length → L.getD i false = true := by
      intro i hi
      have h0 : undone ops L = 0 := by omega
      unfold undone at h0
      rw [List.length_eq_zero_iff, List.filter_eq_nil_iff] at h0
      have := h0 i (by simpa using hi)
      simpa using this
    exact draw_rest hc htr 0 nA (Nat.le_refl _) hle hd (fun i hi hn => ⟨fun h => by omega, fun _ h => hLA i hi hn h⟩) (fun i hi _ => hall i (by omega)) hf hK hs hl0 (toB β F w a L hd hs hA fun i hi _ => hall i (by omega)) hk
  | succ fuel ih =>
    intro β F w a L hd hf hLA hs hl0 hA hk
    by_cases hall : ∀ i, i < nA → freeOp (cls ops) l nA i ≠ true → L.getD i false = true
    · exact draw_rest hc htr (fuel + 1) nA (Nat.le_refl _) hle hd (fun i hi hn => ⟨fun h => by omega, fun _ h => hLA i hi hn h⟩) hall hf hK hs hl0 (toB β F w a L hd hs hA hall) hk
    · refine ⟨fun h0 => absurd (fun i hi _ => first_ready hc hd h0 i (by omega)) hall, fun i hi => ?_⟩
      obtain ⟨o, ho, h3, h4⟩ := mem_ready hi
      have hil : i < ops.length := (List.getElem?_eq_some_iff.1 ho).1
      have hiL : i < L.size := by rw [hd.size]; exact hil
      obtain ⟨v, hv1, hv2, hv3, hv4, hv5⟩ := hlg i o ho
      have hd5 : v.dst.all (· < N) = true := by rw [hv4]; exact hv5
      have hd' := hd.set hi
      have hu := undone_set hd hi
      have hmono : ∀ j, (L.setIfInBounds i true).getD j false = true → j = i ∨ L.getD j false = true := by
        intro j hj
        by_cases hij : i = j
        · exact .inl hij.symm
        · right
          rw [Array.getD_eq_getD_getElem?, Array.getElem?_setIfInBounds_ne hij, ← Array.getD_eq_getD_getElem?] at hj; exact hj
      have hkeep : ∀ j, L.getD j false = true → (L.setIfInBounds i true).getD j false = true := by
        intro j hj
        by_cases hij : i = j
        · subst hij; simp [hiL]
        · rw [Array.getD_eq_getD_getElem?, Array.getElem?_setIfInBounds_ne hij, ← Array.getD_eq_getD_getElem?]; exact hj
      have hset : (L.setIfInBounds i true).getD i false = true := by simp [hiL]
      rcases Nat.lt_or_ge i nA with hiA | hiA
      case inr =>
        have hea : earlyOp ops (cls ops) l nA i = true := by
          refine Classical.byContradiction fun hne => ?_
          exact absurd (fun k hk hfk => wait_all hc hd hi ((hc.wait i hil hiA hne k (by omega)).resolve_right fun h9 => hfk h9.1)) hall
        obtain ⟨d, z, hz, _, ⟨o', t, ho', hot⟩, hn⟩ := earlyOp_spec hea
        rw [ho] at ho'; cases ho'
        rw [hv1] at hz; cases hz
        have hod : o.dst = some d := hv4.symm
        have hdN : d < a.tmps.size := by rw [hA.size]; simpa using hd5
        have hg : o.guard = none := by
          cases hog : o.guard with
          | none => rfl
          | some jb => obtain ⟨j, b⟩ := jb; rw [hog] at hv3; simp only [trG] at hv3; split at hv3 <;> simp at hv3
        unfold wpOpIn
        simp only [List.getElem?_toArray, ho]
        have : Region.wanted o (yielded ops.toArray a.tmps) = true := by simp [Region.wanted, hg]
        rw [if_pos this]
        refine alloc_raw hot hv2 (fun vs t' hr => ?_) ro nn
        rw [hod]
        obtain ⟨s1, s2⟩ := hs.extra (.cells vs.toArray t' (0, 0))
        have hm := s2.mono hs
        have hlt : ∀ j, j < nA → (L.setIfInBounds i true).getD j false = true → L.getD j false = true := fun j hj hh => (hmono j hh).resolve_left (by omega)
        refine ih hd' (by omega) (fun j hj hnj hh => (hmono j hh).elim (fun e => e ▸ hea) (hLA j hj hnj)) s1 (hl0.trans s2) ⟨fun j v x d' hj hLj hv' hx' hd'' => ?_, fun s hsn hse => ?_, hA.earl.more hs hl0.size hv1 hea hr hdN, by rw [put_size]; exact hA.size, by rw [put_defers]; exact hA.defers⟩ hk
        · have hne : d ≠ d' := fun e9 => (hn j v hv' (by omega)).1 (by rw [hd'', e9])
          rw [put_other (by simpa using hne)]
          exact Rep.mono hm (hA.did j v x d' hj (hlt j hj hLj) hv' hx' hd'')
        · have hne : d ≠ s := fun e9 => hse i _ hiA hea hset hv1 (by rw [e9])
          rw [put_other (by simpa using hne)]
          exact Rep.mono hm (hA.not s (fun j v hj hLj hv' => hsn j v hj (hkeep j hLj) hv') (fun j v hj hej hLj hv' => hse j v hj hej (hkeep j hLj) hv'))
      have hxi : xs[i]? = some (xs[i]'(by omega)) := by simp [show i < xs.length from by omega]
      generalize hxx : xs[i]'(by omega) = x at hxi
      have hvt : (l.take nA)[i]? = some v := by rw [List.getElem?_take, if_pos hiA]; exact hv1
      have hrde : ∀ s ∈ v.rd, ∀ k u, nA ≤ k → earlyOp ops (cls ops) l nA k = true → L.getD k false = true → l[k]? = some u → u.dst ≠ some s := by
        intro s hsr k u hnk hek _ hu hud
        obtain ⟨_, _, hz, _, _, hn⟩ := earlyOp_spec hek
        rw [hz] at hu; cases hu; cases hud
        have := bit_lt hc hil ((hn i v hv1 (by omega)).2 hsr); omega
      -- what it reads is there
      have hrd : ∀ s ∈ v.rd, ∀ j u, j < nA → l[j]? = some u → u.dst = some s → ((cls ops).getD i 0).testBit j = true ∨ ((cls ops).getD j 0).testBit i = true := fun s hs' j u hj hu hus => hc.read i j v u s hiA hj hv1 hu hus hs'
      have hokf : Okq P v (forget v.rd (putAll e0 ((l.take nA).take i) (xs.take i))) H x := by
        refine Okq_congr (fun s hs' => ?_) (hok i v x hvt hxi)
        rw [get_forget, if_pos hs']
      have henv : EnvOk ⟨β, H, F⟩ w (forget v.rd (putAll e0 ((l.take nA).take i) (xs.take i))) a := by
        refine ⟨fun s => ?_, hs.glob⟩
        rw [get_forget]
        split
        · rename_i hs'
          by_cases hex : ∃ j u, j < nA ∧ l[j]? = some u ∧ u.dst = some s
          · obtain ⟨j, u, hj, hu, hus⟩ := hex
            have honce : ∀ (j' : Nat) o', l[j']? = some o' → j' < nA → j' ≠ j → o'.dst ≠ some s := fun j' o' ho' hj' hne hd' => hne (hc.once j' j o' u s hj' hj ho' hu hus hd')
            rcases hrd s hs' j u hj hu hus with hb | hb
            · have hji : j < i := bit_lt hc hil hb
              have hxj : xs[j]? = some (xs[j]'(by omega)) := by simp [show j < xs.length from by omega]
              have hu' : (l.take nA)[j]? = some u := by rw [List.getElem?_take, if_pos hj]; exact hu
              rw [get_putAll_some (l := (l.take nA).take i) (i := j) (by rw [List.getElem?_take, if_pos hji]; exact hu') (by rw [List.getElem?_take, if_pos hji]; exact hxj) hus fun j' o' ho' hne => by
                rw [List.getElem?_take] at ho'
                split at ho'
                · rw [List.getElem?_take] at ho'
                  split at ho'
                  · rename_i hj'; exact honce j' o' ho' hj' hne
                  · cases ho'
                · cases ho']
              exact hA.did j u _ s hj (wait_all hc hd hi hb) hu hxj hus
            · have hij : i < j := bit_lt hc (by omega) hb
              have hLj : L.getD j false ≠ true := by
                intro hLj
                have hjl : j < (cls ops).length := by rw [cls_length]; omega
                have hmj : (cls ops)[j]? = some ((cls ops).getD j 0) := by
                  rw [List.getD_eq_getElem?_getD, List.getElem?_eq_getElem hjl]; rfl
                have hoj : ops[j]? = some (ops[j]'(by omega)) := List.getElem?_eq_getElem (by omega)
                have hLi := cls_ok hmj hoj hd.closed (hd.closed j _ hoj hLj) hb
                have hLi' : L.getD i false = true := hLi
                rw [Array.getD_eq_getD_getElem?, Array.getElem?_eq_getElem hiL] at h3 hLi'
                simp at h3 hLi'; rw [h3] at hLi'; cases hLi'
              rw [get_putAll_none fun j' o' ho' hd' => by
                rw [List.getElem?_take] at ho'
                split at ho'
                · rename_i hj'i
                  rw [List.getElem?_take] at ho'
                  split at ho'
                  · rename_i hj'; exact honce j' o' ho' hj' (by omega) hd'
                  · cases ho'
                · cases ho']
              exact hA.not s (fun i' v' hi' hL' hv' hd'' => by
                by_cases he : i' = j
                · exact hLj (he ▸ hL')
                · exact honce i' v' hv' hi' he hd'') (hrde s hs')
          · rw [get_putAll_none fun j o' ho' hd' => hex ⟨j, o', by
              rw [List.getElem?_take] at ho'
              split at ho'
              · rw [List.getElem?_take] at ho'
                split at ho'
                · rename_i hj'; exact ⟨hj', ho', hd'⟩
                · cases ho'
              · cases ho'⟩]
            exact hA.not s (fun i' v' hi' _ hv' hd'' => hex ⟨i', v', hi', hv', hd''⟩) (hrde s hs')
        · exact Rep.any
      refine okq_step (all := ops) hv2 hv3 hs henv hokf ho ?_
      intro β' F' w' u hs' hl hx
      have hm := hl.mono hs
      have hput : ∀ s, o.dst ≠ some s → (a.put o.dst u).tmps.getD s undef = a.tmps.getD s undef := by
        intro s hne
        cases hod : o.dst with
        | none => rfl
        | some d =>
          have : d ≠ s := fun e => hne (by rw [hod, e])
          show (a.tmps.setIfInBounds d u).getD s undef = _
          simp [Array.getElem?_setIfInBounds_ne this]
      refine ih hd' (by omega) (fun j hj hnj hLj => hLA j hj hnj ((hmono j hLj).resolve_left (by omega))) hs' (hl0.trans hl) ⟨fun j v' x' d hj hLj hv' hx' hd'' => ?_, fun s hsn hse => ?_, ?_, ?_, ?_⟩ hk
      · by_cases hji : j = i
        · subst hji
          rw [hv1] at hv'; cases hv'
          rw [hxi] at hx'; cases hx'
          have hod : o.dst = some d := by rw [← hv4]; exact hd''
          have hdN : d < a.tmps.size := by rw [hA.size]; rw [hod] at hv5; simpa using hv5
          have : (a.put o.dst u).tmps.getD d undef = u := by
            rw [hod]; show (a.tmps.setIfInBounds d u).getD d undef = u
            simp [hdN]
          rw [this]; exact hx
        · have hne : o.dst ≠ some d := fun e => hji (hc.once j i v' v d hj hiA hv' hv1 (by rw [hv4]; exact e) hd'')
          rw [hput d hne]
          exact Rep.mono hm (hA.did j v' x' d hj ((hmono j hLj).resolve_left hji) hv' hx' hd'')
      · have hne : o.dst ≠ some s := fun e => hsn i v hiA (by simp [hiL]) hv1 (by rw [hv4]; exact e)
        rw [hput s hne]
        exact Rep.mono hm (hA.not s (fun j v' hj hLj hv' => hsn j v' hj (hkeep j hLj) hv') (fun j v' hj hej hLj hv' => hse j v' hj hej (hkeep j hLj) hv'))
      · refine hA.earl.step hl (Nat.le_refl _) (fun k dk z hmk hek hz _ => ?_) (fun h9 => by omega)
        obtain ⟨_, _, hz', _, _, hn⟩ := earlyOp_spec hek
        rw [hz] at hz'; cases hz'
        rw [← hv4]; exact (hn i v hv1 (by omega)).1
      · cases hod : o.dst with
        | none => exact hA.size
        | some d => simp [Act.put, hA.size]
      · cases hod : o.dst <;> exact hA.defers

/-! The operations of a statement, in another order. -/
def renum (f : Nat → Nat) (o : Oper) : Oper := { o with after := o.after.map (fun e => { e with on := f e.on }), guard := o.guard.map fun q => (f q.1, q.2) }
def permOps (ops : List Oper) (π : List Nat) : List Oper := π.map fun i => renum (fun j => π.idxOf j) (ops.getD i default)
def isPerm (π : List Nat) (n : Nat) : Bool := decide (π.length = n) && decide π.Nodup && π.all (· < n) && (List.range n).all (π.contains ·)
theorem preds_renum {f : Nat → Nat} {o : Oper} : preds (renum f o) = (preds o).map f := by
  unfold preds renum
  simp only [Array.toList_map, List.filter_map, List.map_map]
  congr 1
theorem idxOf_none {a : Nat} : ∀ {l : List Nat}, ¬ a ∈ l → l.idxOf a = l.length
  | [], _ => rfl
  | b :: l, h => by
    rw [List.mem_cons, not_or] at h
    rw [List.idxOf_cons, idxOf_none h.2]
    have : (b == a) = false := by simpa using fun e => h.1 e.symm
    rw [this]; rfl
theorem perm_any {π : List Nat} (hp : isPerm π ops.length = true) {F : Fence} {QQ : Exit → Act → World → Prop} : ∀ (fuel : Nat) {L L' : Array Bool} {a : Act} {w : World}, L.size = ops.length → L'.size = ops.length → (∀ i, i < ops.length → L'.getD (π.idxOf i) false = L.getD i false) →
    wpAnyIn F nn P .any (permOps ops π).toArray QQ fuel L' a w → wpAnyIn F nn P .any ops.toArray QQ fuel L a w := by
  unfold isPerm at hp
  simp only [Bool.and_eq_true, decide_eq_true_eq, List.all_eq_true, List.mem_range] at hp
  obtain ⟨⟨⟨h1, h2⟩, h3⟩, h4⟩ := hp
  have hmem : ∀ i, i < ops.length → i ∈ π := fun i hi => by have := h4 i hi; simpa using this
  have hpos : ∀ i, i < ops.length → π.idxOf i < ops.length := fun i hi => by rw [← h1]; exact List.idxOf_lt_length_of_mem (hmem i hi)
  have hat : ∀ i, i < ops.length → π[π.idxOf i]? = some i := fun i hi => by
    have hlt := List.idxOf_lt_length_of_mem (hmem i hi)
    rw [List.getElem?_eq_getElem hlt, List.getElem_idxOf hlt]
  have hback : ∀ q (hq : q < π.length), π.idxOf π[q] = q := fun q hq => h2.idxOf_getElem q hq
  have hops : ∀ i o, ops[i]? = some o → (permOps ops π)[π.idxOf i]? = some (renum (fun j => π.idxOf j) o) := fun i o ho => by
    have hi : i < ops.length := (List.getElem?_eq_some_iff.1 ho).1
    unfold permOps
    rw [List.getElem?_map, hat i hi]
    simp [List.getD_eq_getElem?_getD, ho]
  have hlen : (permOps ops π).length = ops.length := by unfold permOps; rw [List.length_map, h1]
  have hops2 : ∀ q o, (permOps ops π)[q]? = some o → ∃ i o', π.idxOf i = q ∧ ops[i]? = some o' ∧ o = renum (fun j => π.idxOf j) o' := fun q o ho => by
    have hq : q < π.length := by have := (List.getElem?_eq_some_iff.1 ho).1; rw [hlen] at this; omega
    have hi := h3 π[q] (List.getElem_mem hq)
    refine ⟨π[q], ops[π[q]], hback q hq, List.getElem?_eq_getElem hi, ?_⟩
    have := hops π[q] _ (List.getElem?_eq_getElem hi)
    rw [hback q hq, ho] at this
    exact Option.some.inj this
  have hD : ∀ {L : Array Bool} {i : Nat}, i < L.size → (L.getD i true = false ↔ L.getD i false = false) := fun {L i} hi => by
    rw [Array.getD_eq_getD_getElem?, Array.getD_eq_getD_getElem?, Array.getElem?_eq_getElem hi]; rfl
  have hlt : ∀ {L : Array Bool} {i : Nat}, L.size = ops.length → L.getD i false = true → i < ops.length := fun {L i} hs hi => by
    rcases Nat.lt_or_ge i L.size with h | h
    · omega
    · rw [Array.getD_eq_getD_getElem?, Array.getElem?_eq_none h] at hi; cases hi
  -- what is ready here is ready there
  have go : ∀ {L L' : Array Bool}, L.size = ops.length → L'.size = ops.length → (∀ i, i < ops.length → L'.getD (π.idxOf i) false = L.getD i false) → ∀ i, i ∈ Region.ready .any ops.toArray L → π.idxOf i ∈ Region.ready .any (permOps ops π).toArray L' := by
    intro L L' hL hL' hLL i hi
    obtain ⟨o, ho, g1, g2⟩ := mem_ready hi
    have hil : i < ops.length := (List.getElem?_eq_some_iff.1 ho).1
    refine ready_of (hops i o ho) ?_ ?_
    · exact (hD (by rw [hL']; exact hpos i hil)).2 (by rw [hLL i hil]; exact (hD (by omega)).1 g1)
    · intro q hq
      rw [preds_renum] at hq
      obtain ⟨j, hj, rfl⟩ := List.mem_map.1 hq
      have := g2 j hj
      rw [hLL j (hlt hL this)]; exact this
  have back : ∀ {L L' : Array Bool}, L.size = ops.length → L'.size = ops.length → (∀ i, i < ops.length → L'.getD (π.idxOf i) false = L.getD i false) → ∀ q, q ∈ Region.ready .any (permOps ops π).toArray L' → ∃ i, i ∈ Region.ready .any ops.toArray L := by
    intro L L' hL hL' hLL q hq
    obtain ⟨o, ho, g1, g2⟩ := mem_ready hq
    obtain ⟨i, o', rfl, ho', rfl⟩ := hops2 q o ho
    have hil : i < ops.length := (List.getElem?_eq_some_iff.1 ho').1
    refine ⟨i, ready_of ho' ?_ ?_⟩
    · exact (hD (by omega)).2 (by rw [← hLL i hil]; exact (hD (by rw [hL']; exact hpos i hil)).1 g1)
    · intro j hj
      have hj' : π.idxOf j ∈ preds (renum (fun j => π.idxOf j) o') := by rw [preds_renum]; exact List.mem_map_of_mem hj
      have h9 := g2 _ hj'
      have hjl : j < ops.length := by
        refine Classical.byContradiction fun hn => ?_
        have : π.idxOf j = π.length := idxOf_none (fun hm => hn (h3 j hm))
        have h10 := hlt hL' h9
        omega
      rw [← hLL j hjl]; exact h9
  have hy : ∀ {tmps : Array Value} {j : Nat}, yielded (permOps ops π).toArray tmps (π.idxOf j) = yielded ops.toArray tmps j := by
    intro tmps j
    unfold yielded
    by_cases hj : j < ops.length
    · have := hops j _ (List.getElem?_eq_getElem hj)
      simp only [List.getElem?_toArray, this, List.getElem?_eq_getElem hj]
      rfl
    · have h9 : π.idxOf j = π.length := idxOf_none (fun hm => hj (h3 j hm))
      simp only [List.getElem?_toArray]
      rw [List.getElem?_eq_none (l := permOps ops π) (by rw [hlen]; omega), List.getElem?_eq_none (l := ops) (by omega)]
  intro fuel
  induction fuel with
  | zero =>
    intro L L' a w hL hL' hLL h
    refine ⟨?_, h.2⟩
    rw [List.eq_nil_iff_forall_not_mem]
    intro i hi
    have := go hL hL' hLL i hi
    rw [h.1] at this; cases this
  | succ fuel ih =>
    intro L L' a w hL hL' hLL h
    refine ⟨fun h0 => h.1 ?_, fun i hi => ?_⟩
    · rw [List.eq_nil_iff_forall_not_mem]
      intro q hq
      obtain ⟨i, hi⟩ := back hL hL' hLL q hq
      rw [h0] at hi; cases hi
    · have h9 := h.2 _ (go hL hL' hLL i hi)
      obtain ⟨o, ho, _, _⟩ := mem_ready hi
      have hil : i < ops.length := (List.getElem?_eq_some_iff.1 ho).1
      have hset : ∀ j, j < ops.length → (L'.setIfInBounds (π.idxOf i) true).getD (π.idxOf j) false = (L.setIfInBounds i true).getD j false := by
        intro j hj
        by_cases e : i = j
        · subst e
          have e1 := hpos i hil
          simp [hL, hL', hil, e1]
        · have e2 : π.idxOf i ≠ π.idxOf j := fun e3 => e (by
            have a1 := hat i hil
            have a2 := hat j hj
            rw [e3, a2] at a1; exact (Option.some.inj a1).symm)
          rw [Array.getD_eq_getD_getElem?, Array.getElem?_setIfInBounds_ne e2, ← Array.getD_eq_getD_getElem?, Array.getD_eq_getD_getElem? (xs := L.setIfInBounds i true), Array.getElem?_setIfInBounds_ne e, ← Array.getD_eq_getD_getElem?]
          exact hLL j hj
      have h10 : wpOpIn F nn P (permOps ops π).toArray QQ (π.idxOf i) (wpAnyIn F nn P .any ops.toArray QQ fuel (L.setIfInBounds i true)) a w :=
        wpOpIn_mono (fun a w h => ih (by simpa using hL) (by simpa using hL') hset h) h9
      unfold wpOpIn at h10 ⊢
      simp only [List.getElem?_toArray, hops i o ho, ho] at h10 ⊢
      have hw : Region.wanted (renum (fun j => π.idxOf j) o) (yielded (permOps ops π).toArray a.tmps) = Region.wanted o (yielded ops.toArray a.tmps) := by
        unfold Region.wanted renum
        cases hg : o.guard with
        | none => rfl
        | some q => simp only [Option.map_some, hy]
      rw [hw] at h10
      exact h10

theorem draw_any {all : List Oper} (htr : trL P N all all = some l) (hc : chkDraw all l nA = true) {K : Env → List Ob → Prop} {e : Env} {H : List Ob} {β : Nat → Nat → Option (Nat × Nat)} {F : Nat → Prop} {w : World} {a : Act} {QQ : Exit → Act → World → Prop}
    (h : vq P (l.take nA) (fun e => vops P (l.drop nA) K e H) e H) (hs : Sim ⟨β, H, F⟩ w) (hf : Fr N D ⟨β, H, F⟩ w e a)
    (hk : ∀ e' H' β' F' w' a', K e' H' → Sim ⟨β', H', F'⟩ w' → Fr N D ⟨β', H', F'⟩ w' e' a' → Later ⟨β, H, F⟩ w ⟨β', H', F'⟩ w' → QQ .normal a' w') : wpAnyIn (fz ro) nn P .any all.toArray QQ all.length (Array.replicate all.length false) a { w with drawn := w.drawn + 1 } := by
  have hck := Chk.of hc
  obtain ⟨xs, h1, h2, h3⟩ := vq_run h
  have hll := (trL_get htr).1
  have hle := hck.le
  have hxl : xs.length = nA := by
    rw [h1, List.length_take]
    have : l.length = all.length := hll
    have : nA ≤ all.length := hle
    omega
  have h0 : ∀ i, (Array.replicate all.length false).getD i false = false := by
    intro i; simp [Array.getD_eq_getD_getElem?, Array.getElem?_replicate]; split <;> rfl
  have hs0 : Sim ⟨β, H, F⟩ { w with drawn := w.drawn + 1 } := hs.heap rfl
  have hl0 : Later ⟨β, H, F⟩ w ⟨β, H, F⟩ { w with drawn := w.drawn + 1 } := Later.heap rfl rfl rfl rfl
  refine draw_first (ops := all) hck htr hxl h3 h2 all.length ⟨by simp, fun i o ho hi => by
    have hi' : (Array.replicate all.length false).getD i false = true := hi
    rw [h0] at hi'; cases hi'⟩ ?_ (fun i hi _ hL => by
    have hL' : (Array.replicate all.length false).getD i false = true := hL
    rw [h0] at hL'; cases hL') hs0 hl0 ⟨fun i v x d hi hL => (by
    have hL' : (Array.replicate all.length false).getD i false = true := hL
    rw [h0] at hL'; cases hL'), fun s _ _ => Rep.mono (hl0.mono hs) (hf.env.1 s), Earl.empty fun i _ _ hL => (by
    have hL' : (Array.replicate all.length false).getD i false = true := hL
    rw [h0] at hL'; cases hL'), hf.size, hf.defers⟩ hk
  unfold undone
  exact Nat.le_trans (List.length_filter_le _ _) (by simp)
theorem draw_sound {id : Nat} {all : Array Oper} (hm : P.follows .mixedOrders = true) (htr : trL P N all.toList all.toList = some l) (hc : chkDraw all.toList l nA = true) {K : Env → List Ob → Prop} {e : Env} {H : List Ob} {β : Nat → Nat → Option (Nat × Nat)} {F : Nat → Prop} {w : World} {a : Act} {QQ : Exit → Act → World → Prop}
    (h : vq P (l.take nA) (fun e => vops P (l.drop nA) K e H) e H) (hs : Sim ⟨β, H, F⟩ w) (hf : Fr N D ⟨β, H, F⟩ w e a)
    (hk : ∀ e' H' β' F' w' a', K e' H' → Sim ⟨β', H', F'⟩ w' → Fr N D ⟨β', H', F'⟩ w' e' a' → Later ⟨β, H, F⟩ w ⟨β', H', F'⟩ w' → QQ .normal a' w') : (Code.region id all true).wpIn (fz ro) nn P QQ a w := by
  obtain ⟨all⟩ := all
  exact wpIn_region_any hm (draw_any htr hc h hs hf hk)
/-- What looks at something and waits for nothing that changes something: first. -/
def isBstr (v : VO) : Bool := match v.op with
  | .s (.bstr _ _) => true
  | _ => false
def isP (v : VO) : Bool := match v.op with
  | .p _ => true
  | _ => false
def firstOf : List Oper → List VO → Nat → List Nat → List Nat
  | o :: ops, v :: l, i, acc => firstOf ops l (i + 1) (if isP v && (preds o).all acc.contains then acc ++ [i] else acc)
  | _, _, _, acc => acc
def piOf (ops : List Oper) (l : List VO) : List Nat :=
  let a := firstOf ops l 0 []
  a ++ (List.range ops.length).filter fun i => !a.contains i
theorem draw_soundP {id : Nat} {all : Array Oper} {π : List Nat} (hm : P.follows .mixedOrders = true) (hp : isPerm π all.toList.length = true) (htr : trL P N (permOps all.toList π) (permOps all.toList π) = some l) (hc : chkDraw (permOps all.toList π) l nA = true) {K : Env → List Ob → Prop} {e : Env} {H : List Ob} {β : Nat → Nat → Option (Nat × Nat)} {F : Nat → Prop} {w : World} {a : Act} {QQ : Exit → Act → World → Prop}
    (h : vq P (l.take nA) (fun e => vops P (l.drop nA) K e H) e H) (hs : Sim ⟨β, H, F⟩ w) (hf : Fr N D ⟨β, H, F⟩ w e a)
    (hk : ∀ e' H' β' F' w' a', K e' H' → Sim ⟨β', H', F'⟩ w' → Fr N D ⟨β', H', F'⟩ w' e' a' → Later ⟨β, H, F⟩ w ⟨β', H', F'⟩ w' → QQ .normal a' w') : (Code.region id all true).wpIn (fz ro) nn P QQ a w := by
  obtain ⟨all⟩ := all
  have hlen : (permOps all π).length = all.length := by
    unfold isPerm at hp
    simp only [Bool.and_eq_true, decide_eq_true_eq] at hp
    unfold permOps; rw [List.length_map]; exact hp.1.1.1
  refine wpIn_region_any hm ?_
  refine perm_any (ops := all) hp all.length (by simp) (by simp) (fun i hi => ?_) (L' := Array.replicate all.length false) ?_
  · have h0 : ∀ i, (Array.replicate all.length false).getD i false = false := by
      intro i; simp [Array.getD_eq_getD_getElem?, Array.getElem?_replicate]; split <;> rfl
    rw [h0]; exact (h0 i).symm
  · have := draw_any (ro := ro) (nn := nn) htr hc h hs hf hk
    have hl2 : (permOps ({ toList := all } : Array Oper).toList π).length = all.length := hlen
    rw [hl2] at this
    exact this
end sound
end Go.Proofs.Ytknphdcjopaaoaa
