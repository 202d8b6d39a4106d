/- A statement whose order is open: if what it does at first changes no object, and all else waits for it, any order does what the text's order does. No program in sight. -/
import Derived.Test.YtknphdcjopaaoaaVmI
import Derived.Orders
import Derived.OrdersIn
namespace Go.Proofs.Ytknphdcjopaaoaa
open Go.RowKit
set_option linter.unusedVariables false
set_option autoImplicit false

/-! Which operations stand ahead of which. -/
def preds (o : Oper) : List Nat := (o.after.toList.filter (Region.binds .any)).map (·.on)
def maskOf (ps : List Nat) (acc : List Nat) : Nat := ps.foldl (fun s p => s ||| 2 ^ p ||| acc.getD p 0) 0
def clsGo : List Oper → List Nat → List Nat
  | [], acc => acc
  | o :: r, acc => clsGo r (acc ++ [maskOf (preds o) acc])
def cls (ops : List Oper) : List Nat := clsGo ops []

/-- A set of numbers that has what stands ahead of each. -/
def Closed (ops : List Oper) (S : Nat → Prop) : Prop := ∀ i o, ops[i]? = some o → S i → ∀ p ∈ preds o, S p

theorem maskOf_bits {ps acc : List Nat} {k : Nat} (h : (maskOf ps acc).testBit k = true) : ∃ p ∈ ps, k = p ∨ (acc.getD p 0).testBit k = true := by
  unfold maskOf at h
  have key : ∀ (ps : List Nat) (s : Nat), (ps.foldl (fun s p => s ||| 2 ^ p ||| acc.getD p 0) s).testBit k = true → s.testBit k = true ∨ ∃ p ∈ ps, k = p ∨ (acc.getD p 0).testBit k = true := by
    intro ps
    induction ps with
    | nil => intro s h; exact .inl h
    | cons p ps ih =>
      intro s h
      rcases ih _ h with h1 | ⟨q, hq, h1⟩
      · rw [Nat.testBit_or, Nat.testBit_or, Bool.or_eq_true, Bool.or_eq_true] at h1
        rcases h1 with (h1 | h1) | h1
        · exact .inl h1
        · rw [Nat.testBit_two_pow] at h1
          exact .inr ⟨p, by simp, .inl (by simpa using h1 : p = k).symm⟩
        · exact .inr ⟨p, by simp, .inr h1⟩
      · exact .inr ⟨q, by simp [hq], h1⟩
  rcases key ps 0 h with h | h
  · simp at h
  · exact h

theorem clsGo_spec {all : List Oper} : ∀ (rest done : List Oper) (acc : List Nat), all = done ++ rest → acc.length = done.length →
    (∀ (j m : Nat) (o : Oper), acc[j]? = some m → all[j]? = some o → ∀ S, Closed all S → (∀ p ∈ preds o, S p) → ∀ k, m.testBit k = true → S k) →
    (clsGo rest acc).length = all.length ∧ ∀ (j m : Nat) (o : Oper), (clsGo rest acc)[j]? = some m → all[j]? = some o → ∀ S, Closed all S → (∀ p ∈ preds o, S p) → ∀ k, m.testBit k = true → S k
  | [], done, acc, h1, h2, h3 => ⟨by rw [clsGo, h1]; simpa using h2, h3⟩
  | o :: rest, done, acc, h1, h2, h3 => by
    rw [clsGo]
    refine clsGo_spec rest (done ++ [o]) _ (by rw [h1]; simp) (by simp [h2]) ?_
    intro j m o' hm ho S hS hp k hk
    rcases Nat.lt_trichotomy j acc.length with h | h | h
    · rw [List.getElem?_append_left h] at hm
      exact h3 j m o' hm ho S hS hp k hk
    · subst h
      simp at hm; subst hm
      have ho' : o' = o := by
        rw [h1, h2, List.getElem?_append_right (Nat.le_refl _)] at ho
        simpa using ho.symm
      subst ho'
      obtain ⟨p, hpp, hkp⟩ := maskOf_bits hk
      rcases hkp with rfl | hkp
      · exact hp k hpp
      · cases hq : acc[p]? with
        | none => rw [List.getD_eq_getElem?_getD, hq] at hkp; simp at hkp
        | some mp =>
          rw [List.getD_eq_getElem?_getD, hq] at hkp
          have hpl : p < done.length := by rw [← h2]; exact (List.getElem?_eq_some_iff.1 hq).1
          have hop : all[p]? = some done[p] := by rw [h1, List.getElem?_append_left hpl]; simp [hpl]
          exact h3 p mp _ hq hop S hS (hS p _ hop (hp p hpp)) k hkp
    · rw [List.getElem?_eq_none (by simp; omega)] at hm; cases hm

theorem cls_ok {all : List Oper} {i m : Nat} {o : Oper} (hm : (cls all)[i]? = some m) (ho : all[i]? = some o) {S : Nat → Prop} (hS : Closed all S) (hp : ∀ p ∈ preds o, S p) {k : Nat} (hk : m.testBit k = true) : S k :=
  (clsGo_spec all [] [] rfl rfl (by simp)).2 i m o hm ho S hS hp k hk
theorem cls_length (all : List Oper) : (cls all).length = all.length := (clsGo_spec all [] [] rfl rfl (by simp)).1

/-! What is quiet. -/
def SOp.rd : SOp → List Nat
  | .call _ args => args.flatMap Opd.rd
  | .callv x args => x.rd ++ args.flatMap Opd.rd
  | _ => []
def VO.rd (o : VO) : List Nat := (match o.op with | .p o => o.rd | .s o => o.rd) ++ (match o.g with | none => [] | some (s, _) => [s])

/-- The checks: all that stands ahead has a smaller number; the operations from nA on wait for all that have smaller numbers; of the others none is written twice, and what one reads of another one stands ahead of it, or is written behind. -/
def chkDraw (ops : List Oper) (l : List VO) (nA : Nat) : Bool :=
  let m := cls ops
  let n := ops.length
  decide (nA ≤ n) &&
  ((List.range n).all fun i => (match ops[i]? with | some o => (preds o).all (· < i) | none => false)) &&
  ((List.range n).all fun j => decide (j < nA) || (List.range j).all fun k => (m.getD j 0).testBit k) &&
  ((List.range nA).all fun i => (match l[i]? with
    | some v => (List.range nA).all fun j => (match l[j]? with
      | some u => (match u.dst with
        | some d => (if v.rd.contains d then ((m.getD i 0).testBit j || (m.getD j 0).testBit i) else true) && (i == j || v.dst != some d)
        | none => true)
      | none => false)
    | none => false))

/-- It changes no object. -/
def quiet (P : Program) (o : VOp) (e : Env) (H : List Ob) (k : TV → Prop) : Prop := match o with
  | .p o => pop o e H k
  | .s (.call f args) => (∀ x ∈ args, isTup (x.ev e) = false) ∧ ∃ x, VCalls P f (args.map (·.ev e)) H (fun y H' => y = x ∧ H' = H) ∧ k x
  | _ => False
def vq (P : Program) : List VO → (Env → Prop) → Env → List Ob → Prop
  | [], K, e, H => K e
  | o :: r, K, e, H => match o.g with
    | none => quiet P o.op e H fun x => vq P r K (putE e o.dst x) H
    | some (s, b) => match get e s with
      | .val v => if isB v = some b then quiet P o.op e H fun x => vq P r K (putE e o.dst x) H else vq P r K (putE e o.dst (.val undef)) H
      | _ => False

/-- The operation yields x, by what the slots hold. -/
def Qt (P : Program) (o : VOp) (e : Env) (H : List Ob) (x : TV) : Prop := match o with
  | .p o => ∀ K : TV → Prop, K x → pop o e H K
  | .s (.call f args) => (∀ y ∈ args, isTup (y.ev e) = false) ∧ VCalls P f (args.map (·.ev e)) H fun y H' => y = x ∧ H' = H
  | _ => False
def Okq (P : Program) (o : VO) (e : Env) (H : List Ob) (x : TV) : Prop := match o.g with
  | none => Qt P o.op e H x
  | some (s, b) => match get e s with
    | .val v => if isB v = some b then Qt P o.op e H x else x = .val undef
    | _ => False

theorem Qt_congr {P : Program} {o : VOp} {e e' : Env} {H : List Ob} {x : TV} (h : ∀ s ∈ (match o with | .p o => o.rd | .s o => o.rd), get e s = get e' s) (hq : Qt P o e H x) : Qt P o e' H x := by
  cases o with
  | p o => exact fun K hK => by rw [← pop_congr h]; exact hq K hK
  | s o =>
    cases o with
    | call f args =>
      obtain ⟨h1, h2⟩ := hq
      have hm := map_ev_congr (xs := args) h
      refine ⟨fun y hy => ?_, ?_⟩
      · rw [← ev_congr (e := e) (e' := e') fun s hs => h s (List.mem_flatMap.2 ⟨y, hy, hs⟩)]; exact h1 y hy
      · rw [← hm]; exact h2
    | _ => exact hq
theorem Okq_congr {P : Program} {o : VO} {e e' : Env} {H : List Ob} {x : TV} (h : ∀ s ∈ o.rd, get e s = get e' s) (hq : Okq P o e H x) : Okq P o e' H x := by
  have h1 : ∀ s ∈ (match o.op with | .p o => o.rd | .s o => o.rd), get e s = get e' s := fun s hs => h s (List.mem_append_left _ hs)
  unfold Okq at hq ⊢
  cases hg : o.g with
  | none => rw [hg] at hq; exact Qt_congr h1 hq
  | some sb =>
    obtain ⟨s, b⟩ := sb
    rw [hg] at hq
    have h2 : get e s = get e' s := h s (List.mem_append_right _ (by rw [hg]; simp))
    simp only [h2] at hq ⊢
    split at hq
    · split at hq
      · rename_i ht; rw [if_pos ht]; exact Qt_congr h1 hq
      · rename_i ht; rw [if_neg ht]; exact hq
    · exact hq.elim

def putAll (e : Env) : List VO → List TV → Env
  | o :: r, x :: xs => putAll (putE e o.dst x) r xs
  | _, _ => e

theorem quiet_det {P : Program} {o : VOp} {e : Env} {H : List Ob} {k : TV → Prop} (h : quiet P o e H k) : ∃ x, Qt P o e H x ∧ k x := by
  cases o with
  | p o => exact pop_det h
  | s o =>
    cases o with
    | call f args => obtain ⟨h1, x, h2, h3⟩ := h; exact ⟨x, ⟨h1, h2⟩, h3⟩
    | _ => exact h.elim

/-- The results of a run in the text's order. -/
theorem vq_run {P : Program} {H : List Ob} : ∀ {l : List VO} {K : Env → Prop} {e : Env}, vq P l K e H → ∃ xs : List TV, xs.length = l.length ∧ K (putAll e l xs) ∧
    ∀ (i : Nat) o x, l[i]? = some o → xs[i]? = some x → Okq P o (putAll e (l.take i) (xs.take i)) H x
  | [], K, e, h => ⟨[], rfl, h, by simp⟩
  | o :: r, K, e, h => by
    have go : ∀ x, vq P r K (putE e o.dst x) H → Okq P o e H x → ∃ xs : List TV, xs.length = (o :: r).length ∧ K (putAll e (o :: r) xs) ∧ ∀ (i : Nat) o' x, (o :: r)[i]? = some o' → xs[i]? = some x → Okq P o' (putAll e ((o :: r).take i) (xs.take i)) H x := fun x h1 h2 => by
      obtain ⟨xs, k1, k2, k3⟩ := vq_run h1
      refine ⟨x :: xs, by simp [k1], k2, ?_⟩
      intro i o' y ho hx
      cases i with
      | zero => simp at ho hx; subst ho; subst hx; exact h2
      | succ i => exact k3 i o' y (by simpa using ho) (by simpa using hx)
    rw [vq] at h
    cases hg : o.g with
    | none =>
      rw [hg] at h
      obtain ⟨x, h1, h2⟩ := quiet_det h
      exact go x h2 (by unfold Okq; rw [hg]; exact h1)
    | some sb =>
      obtain ⟨s, b⟩ := sb
      rw [hg] at h
      simp only at h
      split at h
      · rename_i t ht
        by_cases htb : isB t = some b
        · rw [if_pos htb] at h
          obtain ⟨x, h1, h2⟩ := quiet_det h
          exact go x h2 (by unfold Okq; rw [hg]; simp only [ht, htb, if_true]; exact h1)
        · rw [if_neg htb] at h
          exact go (.val undef) h (by unfold Okq; rw [hg]; simp only [ht, htb, if_false])
      · exact h.elim

/-- What a slot holds behind. -/
theorem get_putAll_none {s : Nat} : ∀ {l : List VO} {xs : List TV} {e : Env}, (∀ (j : Nat) o, l[j]? = some o → o.dst ≠ some s) → get (putAll e l xs) s = get e s
  | [], xs, e, _ => by cases xs <;> rfl
  | o :: r, [], e, _ => rfl
  | o :: r, x :: xs, e, h => by
    rw [putAll, get_putAll_none fun j o' ho => h (j + 1) o' (by simpa using ho)]
    have := h 0 o rfl
    cases hd : o.dst with
    | none => rfl
    | some d =>
      rw [hd] at this
      show get ((d, x) :: e) s = _
      rw [get_cons, if_neg (fun e => this (by rw [e]))]
theorem get_putAll_some {s : Nat} : ∀ {l : List VO} {xs : List TV} {e : Env} {i : Nat} {o : VO} {x : TV}, l[i]? = some o → xs[i]? = some x → o.dst = some s → (∀ (j : Nat) o', l[j]? = some o' → j ≠ i → o'.dst ≠ some s) → get (putAll e l xs) s = x
  | [], xs, e, i, o, x, h, _, _, _ => by simp at h
  | o' :: r, [], e, i, o, x, _, h, _, _ => by simp at h
  | o' :: r, y :: xs, e, i, o, x, ho, hx, hd, hu => by
    rw [putAll]
    cases i with
    | zero =>
      simp at ho hx; subst ho; subst hx
      rw [get_putAll_none fun j o2 ho2 => hu (j + 1) o2 (by simpa using ho2) (by omega), hd]
      show get ((s, y) :: e) s = y
      rw [get_cons, if_pos rfl]
    | succ i => exact get_putAll_some (by simpa using ho) (by simpa using hx) hd fun j o2 ho2 hj => hu (j + 1) o2 (by simpa using ho2) (by omega)

/-! In any order. -/
section sound
variable {P : Program} {N : Nat} {D : List Deferred} {ro : Option Nat} {nn : Nat} {ops : List Oper} {l : List VO} {nA : Nat}

theorem trL_get {all : List Oper} : ∀ {os : List Oper} {l : List VO}, trL P N all os = some l → l.length = os.length ∧ ∀ (i : Nat) o, os[i]? = some o → ∃ v, l[i]? = some v ∧ trV P o.op = some v.op ∧ trG all o.guard = some v.g ∧ v.dst = o.dst ∧ o.dst.all (· < N) = true
  | [], l, h => by simp only [trL, Option.some.injEq] at h; subst h; simp
  | o :: os, l, h => by
    rw [trL] at h
    split at h
    · rename_i v g r hv hg hr
      split at h
      · rename_i hd
        cases h
        obtain ⟨h1, h2⟩ := trL_get hr
        refine ⟨by simp [h1], fun i o' ho => ?_⟩
        cases i with
        | zero => simp at ho; subst ho; exact ⟨_, rfl, hv, hg, rfl, hd⟩
        | succ i => simpa using h2 i o' (by simpa using ho)
      · cases h
    · cases h

/-- The checks, said. -/
structure Chk (ops : List Oper) (l : List VO) (nA : Nat) : Prop where
  le : nA ≤ ops.length
  lt : ∀ i o, ops[i]? = some o → ∀ p ∈ preds o, p < i
  wait : ∀ j, j < ops.length → nA ≤ j → ∀ k, k < j → ((cls ops).getD j 0).testBit k = true
  read : ∀ i j v u d, i < nA → j < nA → l[i]? = some v → l[j]? = some u → u.dst = some d → d ∈ v.rd → ((cls ops).getD i 0).testBit j = true ∨ ((cls ops).getD j 0).testBit i = true
  once : ∀ i j v u d, i < nA → j < nA → l[i]? = some v → l[j]? = some u → u.dst = some d → v.dst = some d → i = j

theorem Chk.of (h : chkDraw ops l nA = true) : Chk ops l nA := by
  unfold chkDraw at h
  simp only [Bool.and_eq_true, decide_eq_true_eq, List.all_eq_true, List.mem_range, Bool.or_eq_true] at h
  obtain ⟨⟨⟨h1, h2⟩, h3⟩, h4⟩ := h
  refine ⟨h1, fun i o ho p hp => ?_, fun j hj hn k hk => ?_, fun i j v u d hi hj hv hu hd hr => ?_, fun i j v u d hi hj hv hu hd hv2 => ?_⟩
  · have hi : i < ops.length := (List.getElem?_eq_some_iff.1 ho).1
    have := h2 i hi
    rw [ho] at this
    simp only [List.all_eq_true, decide_eq_true_eq] at this
    exact this p hp
  · rcases h3 j hj with h | h
    · omega
    · exact h k hk
  · have := h4 i hi
    rw [hv] at this
    simp only [List.all_eq_true, List.mem_range] at this
    have := this j hj
    rw [hu] at this
    simp only [hd, Bool.and_eq_true] at this
    have hc : v.rd.contains d = true := by simpa using hr
    rw [if_pos hc] at this
    simpa using this.1
  · have := h4 i hi
    rw [hv] at this
    simp only [List.all_eq_true, List.mem_range] at this
    have := this j hj
    rw [hu] at this
    simp only [hd, Bool.and_eq_true, Bool.or_eq_true, beq_iff_eq, bne_iff_ne] at this
    rcases this.2 with h | h
    · exact h
    · exact absurd hv2 h

theorem mem_ready {ops : List Oper} {L : Array Bool} {i : Nat} (h : i ∈ Region.ready .any ops.toArray L) : ∃ o, ops[i]? = some o ∧ L.getD i true = false ∧ ∀ p ∈ preds o, L.getD p false = true := by
  unfold Region.ready at h
  simp only [List.mem_filter, List.mem_range, Bool.and_eq_true, Bool.not_eq_true'] at h
  obtain ⟨h1, h2, h3⟩ := h
  have hi : i < ops.length := by simpa using h1
  refine ⟨ops[i], by simp [hi], h2, fun p hp => ?_⟩
  simp only [List.getElem?_toArray, List.getElem?_eq_getElem hi, Option.map_some, Option.getD_some, Array.all_eq_true] at h3
  unfold preds at hp
  obtain ⟨e, he, rfl⟩ := List.mem_map.1 hp
  obtain ⟨he1, he2⟩ := List.mem_filter.1 he
  obtain ⟨k, hk, hke⟩ := List.mem_iff_getElem.1 he1
  have := h3 k (by simpa using hk)
  have hke' : ops[i].after[k]'(by simpa using hk) = e := by simpa using hke
  rw [hke', he2] at this
  simpa using this
theorem ready_of {ops : List Oper} {L : Array Bool} {i : Nat} {o : Oper} (ho : ops[i]? = some o) (h2 : L.getD i true = false) (h3 : ∀ p ∈ preds o, L.getD p false = true) : i ∈ Region.ready .any ops.toArray L := by
  have hi : i < ops.length := (List.getElem?_eq_some_iff.1 ho).1
  unfold Region.ready
  simp only [List.mem_filter, List.mem_range, Bool.and_eq_true, Bool.not_eq_true']
  refine ⟨by simpa using hi, h2, ?_⟩
  simp only [List.getElem?_toArray, ho, Option.map_some, Option.getD_some, Array.all_eq_true]
  intro k hk
  rw [Bool.or_eq_true]
  by_cases hb : Region.binds .any o.after[k] = true
  · right
    refine h3 _ ?_
    unfold preds
    exact List.mem_map.2 ⟨o.after[k], List.mem_filter.2 ⟨by simp, hb⟩, rfl⟩
  · left; simpa using hb

/-- What has been done. -/
structure Done (ops : List Oper) (L : Array Bool) : Prop where
  size : L.size = ops.length
  closed : Closed ops fun i => L.getD i false = true

theorem Done.set {L : Array Bool} (h : Done ops L) {i : Nat} (hr : i ∈ Region.ready .any ops.toArray L) : Done ops (L.setIfInBounds i true) := by
  obtain ⟨o, ho, h1, h2⟩ := mem_ready hr
  have hi : i < L.size := by rw [h.size]; exact (List.getElem?_eq_some_iff.1 ho).1
  have hmono : ∀ p, L.getD p false = true → (L.setIfInBounds i true).getD p false = true := by
    intro p hp
    by_cases hpi : i = p
    · subst hpi; simp [hi]
    · rw [Array.getD_eq_getD_getElem?, Array.getElem?_setIfInBounds_ne hpi, ← Array.getD_eq_getD_getElem?]; exact hp
  refine ⟨by simp [h.size], fun j o' ho' hj p hp => ?_⟩
  by_cases hji : i = j
  · subst hji
    rw [ho] at ho'; cases ho'
    exact hmono p (h2 p hp)
  · refine hmono p (h.closed j o' ho' ?_ p hp)
    have hj' : (L.setIfInBounds i true).getD j false = true := hj
    rw [Array.getD_eq_getD_getElem?, Array.getElem?_setIfInBounds_ne hji, ← Array.getD_eq_getD_getElem?] at hj'
    exact hj'

theorem wait_all (hc : Chk ops l nA) {L : Array Bool} (hd : Done ops L) {i : Nat} (hr : i ∈ Region.ready .any ops.toArray L) {k : Nat} (hk : ((cls ops).getD i 0).testBit k = true) : L.getD k false = true := by
  obtain ⟨o, ho, _, h2⟩ := mem_ready hr
  have hi : i < (cls ops).length := by rw [cls_length]; exact (List.getElem?_eq_some_iff.1 ho).1
  have hm : (cls ops)[i]? = some ((cls ops).getD i 0) := by
    rw [List.getD_eq_getElem?_getD, List.getElem?_eq_getElem hi]; rfl
  exact cls_ok hm ho hd.closed h2 hk

theorem bit_lt (hc : Chk ops l nA) {i k : Nat} (hi : i < ops.length) (hk : ((cls ops).getD i 0).testBit k = true) : k < i := by
  have hi' : i < (cls ops).length := by rw [cls_length]; exact hi
  have hm : (cls ops)[i]? = some ((cls ops).getD i 0) := by
    rw [List.getD_eq_getElem?_getD, List.getElem?_eq_getElem hi']; rfl
  exact cls_ok (S := fun k => k < i) hm (List.getElem?_eq_getElem hi) (fun j o ho hj p hp => Nat.lt_trans (hc.lt j o ho p hp) hj) (hc.lt i _ (List.getElem?_eq_getElem hi)) hk

/-- How many are not done. -/
def undone (ops : List Oper) (L : Array Bool) : Nat := ((List.range ops.length).filter fun i => !L.getD i false).length
theorem undone_set {L : Array Bool} (hd : Done ops L) {i : Nat} (hr : i ∈ Region.ready .any ops.toArray L) : undone ops (L.setIfInBounds i true) + 1 = undone ops L := by
  obtain ⟨o, ho, h1, h2⟩ := mem_ready hr
  have hi : i < ops.length := (List.getElem?_eq_some_iff.1 ho).1
  have hiL : i < L.size := by rw [hd.size]; exact hi
  have h1' : L.getD i false = false := by
    rw [Array.getD_eq_getD_getElem?, Array.getElem?_eq_getElem hiL] at h1 ⊢; simpa using h1
  have key : ∀ (r : List Nat), r.Nodup → i ∈ r → (r.filter fun j => !(L.setIfInBounds i true).getD j false).length + 1 = (r.filter fun j => !L.getD j false).length := by
    intro r
    induction r with
    | nil => intro _ h; simp at h
    | cons j r ih =>
      intro hn hm
      rw [List.nodup_cons] at hn
      by_cases hji : i = j
      · subst hji
        have e1 : (L.setIfInBounds i true).getD i false = true := by simp [hiL]
        have e2 : r.filter (fun j => !(L.setIfInBounds i true).getD j false) = r.filter fun j => !L.getD j false := by
          apply List.filter_congr
          intro x hx
          have : i ≠ x := fun e => hn.1 (e ▸ hx)
          rw [Array.getD_eq_getD_getElem?, Array.getElem?_setIfInBounds_ne this, ← Array.getD_eq_getD_getElem?]
        rw [List.filter_cons, List.filter_cons, e1, e2, h1']; simp
      · have e1 : (L.setIfInBounds i true).getD j false = L.getD j false := by
          rw [Array.getD_eq_getD_getElem?, Array.getElem?_setIfInBounds_ne hji, ← Array.getD_eq_getD_getElem?]
        have := ih hn.2 ((List.mem_cons.1 hm).resolve_left hji)
        rw [List.filter_cons, List.filter_cons, e1]
        split
        · rw [List.length_cons, List.length_cons]; omega
        · exact this
  exact key _ List.nodup_range (by simpa using hi)

theorem first_ready (hc : Chk ops l nA) {L : Array Bool} (hd : Done ops L) (h0 : Region.ready .any ops.toArray L = []) : ∀ i, i < ops.length → L.getD i false = true := by
  intro i
  induction i using Nat.strongRecOn with
  | _ i ih =>
    intro hi
    by_cases h : L.getD i false = true
    · exact h
    · exfalso
      have hiL : i < L.size := by rw [hd.size]; exact hi
      have hr := ready_of (ops := ops) (L := L) (List.getElem?_eq_getElem hi) (by
        rw [Array.getD_eq_getD_getElem?, Array.getElem?_eq_getElem hiL] at h ⊢; simpa using h) fun p hp => ih p (hc.lt i _ (List.getElem?_eq_getElem hi) p hp) (Nat.lt_trans (hc.lt i _ (List.getElem?_eq_getElem hi) p hp) hi)
      rw [h0] at hr; simp at hr

/-- One operation, by what its slots hold. -/
theorem okq_step {all : List Oper} {o : Oper} {v : VO} (hv : trV P o.op = some v.op) (hg : trG all o.guard = some v.g) {β : Nat → Nat → Option (Nat × Nat)} {H : List Ob} {F : Nat → Prop} {w : World} {a : Act} {e : Env} (hs : Sim ⟨β, H, F⟩ w) (he : EnvOk ⟨β, H, F⟩ w e a) {x : TV} (h : Okq P v e H x)
    {KK : Act → World → Prop} {Q : Exit → Act → World → Prop} {i : Nat} (hi : all[i]? = some o)
    (hk : ∀ β' F' w' u, Sim ⟨β', H, F'⟩ w' → Later ⟨β, H, F⟩ w ⟨β', H, F'⟩ w' → Rep ⟨β', H, F'⟩ w' x u → KK (a.put o.dst u) w') : wpOpIn (fz ro) nn P all.toArray Q i KK a w := by
  have go : Qt P v.op e H x → o.wpIn (fz ro) nn P a w KK Q := fun hq => by
    have hvop : vop P v.op e H fun y H' => y = x ∧ H' = H := by
      obtain ⟨dst, op, g⟩ := v
      cases op with
      | p po =>
        show pop po e H fun y => y = x ∧ H = H
        exact hq _ ⟨rfl, rfl⟩
      | s so =>
        cases so with
        | call f args => exact hq
        | _ => exact hq.elim
    refine vop_sound hs he hv hvop o KK Q rfl (trV_nd hv) ?_ ro nn
    rintro y H' β' F' w' u ⟨rfl, rfl⟩ k1 k2 k3
    exact hk β' F' w' u k1 k2 k3
  unfold wpOpIn
  simp only [List.getElem?_toArray, hi]
  unfold Okq at h
  cases hog : o.guard with
  | none =>
    rw [hog] at hg
    simp only [trG, Option.some.injEq] at hg
    rw [← hg] at h
    have : Region.wanted o (yielded all.toArray a.tmps) = true := by simp [Region.wanted, hog]
    rw [if_pos this]
    exact (go h)
  | some jb =>
    obtain ⟨j, b⟩ := jb
    rw [hog] at hg
    simp only [trG] at hg
    split at hg
    · rename_i s hj
      simp only [Option.some.injEq] at hg
      rw [← hg] at h
      simp only at h
      split at h
      · rename_i t hgs
        have hy : yielded all.toArray a.tmps j = isB t := by
          have h9 := he.1 s
          rw [hgs, Rep.val] at h9
          rw [yielded_is (ops := all.toArray) (a := a) (by simpa using hj), h9]
        by_cases htb : isB t = some b
        · have : Region.wanted o (yielded all.toArray a.tmps) = true := by simp [Region.wanted, hog, hy, htb]
          rw [if_pos this]
          rw [if_pos htb] at h
          exact (go h)
        · have : ¬ (Region.wanted o (yielded all.toArray a.tmps) = true) := by simp [Region.wanted, hog, hy, htb]
          rw [if_neg this]
          rw [if_neg htb] at h
          subst h
          exact ⟨fun _ _ => trivial, hk β F w undef hs (Later.refl _ _) Rep.of_val⟩
      · exact h.elim
    · cases hg

/-- The second part: one by one. -/
theorem draw_rest (hc : Chk ops l nA) (htr : trL P N ops ops = some l) {QQ : Exit → Act → World → Prop} : ∀ (fuel m : Nat) {K : Env → List Ob → Prop} {e : Env} {H : List Ob} {β : Nat → Nat → Option (Nat × Nat)} {F : Nat → Prop} {w : World} {a : Act} {L : Array Bool}, nA ≤ m → m ≤ ops.length → Done ops L → (∀ i, i < ops.length → (L.getD i false = true ↔ i < m)) → ops.length ≤ m + fuel →
    vops P (l.drop m) K e H → Sim ⟨β, H, F⟩ w → Fr N D ⟨β, H, F⟩ w e a →
    (∀ e' H' β' F' w' a', K e' H' → Sim ⟨β', H', F'⟩ w' → Fr N D ⟨β', H', F'⟩ w' e' a' → Later ⟨β, H, F⟩ w ⟨β', H', F'⟩ w' → QQ .normal a' w') → wpAnyIn (fz ro) nn P .any ops.toArray QQ fuel L a w := by
  obtain ⟨hll, hlg⟩ := trL_get htr
  intro fuel
  induction fuel with
  | zero =>
    intro m K e H β F w a L h1 h2 hd hL hf h hs hfr hk
    have hm : m = ops.length := by omega
    subst hm
    rw [List.drop_eq_nil_of_le (by omega)] at h
    refine ⟨?_, hk _ _ _ _ _ _ h hs hfr (Later.refl _ _)⟩
    rw [List.eq_nil_iff_forall_not_mem]
    intro i hi
    obtain ⟨o, ho, h3, _⟩ := mem_ready hi
    have hil : i < ops.length := (List.getElem?_eq_some_iff.1 ho).1
    have := (hL i hil).2 hil
    have hiL : i < L.size := by rw [hd.size]; exact hil
    rw [Array.getD_eq_getD_getElem?, Array.getElem?_eq_getElem hiL] at h3 this
    simp at h3 this; rw [h3] at this; cases this
  | succ fuel ih =>
    intro m K e H β F w a L h1 h2 hd hL hf h hs hfr hk
    refine ⟨fun h0 => ?_, fun i hi => ?_⟩
    · have hall := first_ready hc hd h0
      have hm : m = ops.length := by
        rcases Nat.lt_or_ge m ops.length with hlt | hge
        · have := (hL m hlt).1 (hall m hlt); omega
        · omega
      subst hm
      rw [List.drop_eq_nil_of_le (by omega)] at h
      exact hk _ _ _ _ _ _ h hs hfr (Later.refl _ _)
    · obtain ⟨o, ho, h3, h4⟩ := mem_ready hi
      have hil : i < ops.length := (List.getElem?_eq_some_iff.1 ho).1
      have hiL : i < L.size := by rw [hd.size]; exact hil
      have h3' : ¬ (L.getD i false = true) := by
        rw [Array.getD_eq_getD_getElem?, Array.getElem?_eq_getElem hiL] at h3 ⊢; simp at h3 ⊢; exact h3
      have him : m ≤ i := by
        rcases Nat.lt_or_ge i m with h5 | h5
        · exact absurd ((hL i hil).2 h5) h3'
        · exact h5
      have hieq : i = m := by
        rcases Nat.lt_or_ge m i with h5 | h5
        · have := (hL m (by omega)).1 (wait_all hc hd hi (hc.wait i hil (by omega) m h5)); omega
        · omega
      subst hieq
      obtain ⟨v, hv1, hv2, hv3, hv4, hv5⟩ := hlg i o ho
      have hdrop : l.drop i = v :: l.drop (i + 1) := by
        obtain ⟨hlt, rfl⟩ := List.getElem?_eq_some_iff.1 hv1
        rw [List.drop_eq_getElem_cons hlt]
      rw [hdrop, vops] at h
      have hd' := hd.set hi
      have hL' : ∀ j, j < ops.length → ((L.setIfInBounds i true).getD j false = true ↔ j < i + 1) := by
        intro j hj
        by_cases hij : i = j
        · subst hij; simp [hiL]
        · rw [Array.getD_eq_getD_getElem?, Array.getElem?_setIfInBounds_ne hij, ← Array.getD_eq_getD_getElem?, hL j hj]; omega
      have hd5 : v.dst.all (· < N) = true := by rw [hv4]; exact hv5
      have go : ∀ {e : Env}, Fr N D ⟨β, H, F⟩ w e a → vop P v.op e H (fun x H => vops P (l.drop (i + 1)) K (putE e v.dst x) H) → o.wpIn (fz ro) nn P a w (wpAnyIn (fz ro) nn P .any ops.toArray QQ fuel (L.setIfInBounds i true)) QQ := fun {e} hfr h => by
        refine vop_sound hs hfr.env hv2 h o _ QQ rfl (trV_nd hv2) ?_ ro nn
        intro x H' β' F' w' u hK hs' hl hx
        rw [← hv4]
        exact ih (i + 1) (by omega) (by omega) hd' hL' (by omega) hK hs' (hfr.put (hl.mono hs) hd5 hx) fun e' H'' β'' F'' w'' a' k1 k2 k3 k4 => hk _ _ _ _ _ _ k1 k2 k3 (hl.trans k4)
      unfold wpOpIn
      simp only [List.getElem?_toArray, ho]
      cases hog : o.guard with
      | none =>
        rw [hog] at hv3
        simp only [trG, Option.some.injEq] at hv3
        rw [← hv3] at h
        have : Region.wanted o (yielded ops.toArray a.tmps) = true := by simp [Region.wanted, hog]
        rw [if_pos this]
        exact (go hfr h)
      | some jb =>
        obtain ⟨j, b⟩ := jb
        rw [hog] at hv3
        simp only [trG] at hv3
        split at hv3
        · rename_i s hj
          simp only [Option.some.injEq] at hv3
          rw [← hv3] at h
          simp only at h
          obtain ⟨e', hf', h⟩ := knowB_sound hfr h
          have hy : yielded ops.toArray a.tmps j = isB (a.tmps.getD s undef) := yielded_is (by simpa using hj)
          have skip : vops P (l.drop (i + 1)) K (putE e' v.dst (.val undef)) H → wpAnyIn (fz ro) nn P .any ops.toArray QQ fuel (L.setIfInBounds i true) (a.put o.dst undef) w := fun h => by
            rw [← hv4]
            exact ih (i + 1) (by omega) (by omega) hd' hL' (by omega) h hs (hf'.put ⟨fun b hb => ⟨hb, rfl⟩, fun _ _ h => ⟨h, rfl⟩, fun _ _ => rfl⟩ hd5 Rep.of_val) hk
          cases hq : isB (a.tmps.getD s undef) with
          | some t =>
            rw [hq] at h hy
            by_cases htb : t = b
            · subst htb
              have : Region.wanted o (yielded ops.toArray a.tmps) = true := by simp [Region.wanted, hog, hy]
              rw [if_pos this]
              simp only [if_true] at h
              exact (go hf' h)
            · have : ¬ (Region.wanted o (yielded ops.toArray a.tmps) = true) := by simp [Region.wanted, hog, hy, htb]
              rw [if_neg this]
              simp only [htb, if_false] at h
              exact ⟨fun _ _ => trivial, skip h⟩
          | none =>
            rw [hq] at h hy
            have : ¬ (Region.wanted o (yielded ops.toArray a.tmps) = true) := by simp [Region.wanted, hog, hy]
            rw [if_neg this]
            exact ⟨fun _ _ => trivial, skip h⟩
        · cases hv3

/-- The first part: in any order. -/
structure InA (l : List VO) (nA N : Nat) (D : List Deferred) (xs : List TV) (e0 : Env) (L : Array Bool) (c : Ctx) (w : World) (a : Act) : Prop where
  did : ∀ i v x d, i < nA → L.getD i false = true → l[i]? = some v → xs[i]? = some x → v.dst = some d → Rep c w x (a.tmps.getD d undef)
  not : ∀ s, (∀ i v, i < nA → L.getD i false = true → l[i]? = some v → v.dst ≠ some s) → Rep c w (get e0 s) (a.tmps.getD s undef)
  size : a.tmps.size = N
  defers : a.defers = D

theorem draw_first (hc : Chk ops l nA) (htr : trL P N ops ops = some l) {QQ : Exit → Act → World → Prop} {K : Env → List Ob → Prop} {e0 : Env} {H : List Ob} {xs : List TV} (hxl : xs.length = nA) (hok : ∀ (i : Nat) o x, (l.take nA)[i]? = some o → xs[i]? = some x → Okq P o (putAll e0 ((l.take nA).take i) (xs.take i)) H x)
    (hK : vops P (l.drop nA) K (putAll e0 (l.take nA) xs) H) : ∀ (fuel : Nat) {β : Nat → Nat → Option (Nat × Nat)} {F : Nat → Prop} {w : World} {a : Act} {L : Array Bool}, Done ops L → undone ops L ≤ fuel →
    (∀ i, i < ops.length → L.getD i false = true → i < nA) → Sim ⟨β, H, F⟩ w → InA l nA N D xs e0 L ⟨β, H, F⟩ w a →
    (∀ e' H' β' F' w' a', K e' H' → Sim ⟨β', H', F'⟩ w' → Fr N D ⟨β', H', F'⟩ w' e' a' → Later ⟨β, H, F⟩ w ⟨β', H', F'⟩ w' → QQ .normal a' w') → wpAnyIn (fz ro) nn P .any ops.toArray QQ fuel L a w := by
  obtain ⟨hll, hlg⟩ := trL_get htr
  have hle := hc.le
  have htl : (l.take nA).length = nA := by rw [List.length_take]; omega
  -- what the slots hold when all of the first part is done
  have hfin : ∀ (β : Nat → Nat → Option (Nat × Nat)) (F : Nat → Prop) (w : World) (a : Act) (L : Array Bool) (s : Nat), InA l nA N D xs e0 L ⟨β, H, F⟩ w a → (∀ j u, j < nA → l[j]? = some u → u.dst = some s → L.getD j false = true) → Rep ⟨β, H, F⟩ w (get (putAll e0 (l.take nA) xs) s) (a.tmps.getD s undef) := by
    intro β F w a L s hA hw
    by_cases hex : ∃ j u, j < nA ∧ l[j]? = some u ∧ u.dst = some s
    · obtain ⟨j, u, hj, hu, hus⟩ := hex
      have hxj : ∃ x, xs[j]? = some x := ⟨xs[j]'(by omega), by simp [show j < xs.length from by omega]⟩
      obtain ⟨x, hx⟩ := hxj
      have hu' : (l.take nA)[j]? = some u := by rw [List.getElem?_take, if_pos hj]; exact hu
      rw [get_putAll_some hu' hx hus fun j' o' ho' hne hd' => hne (by
        rw [List.getElem?_take] at ho'
        split at ho'
        · rename_i hj'; exact hc.once j' j o' u s hj' hj ho' hu hus hd'
        · cases ho')]
      exact hA.did j u x s hj (hw j u hj hu hus) hu hx hus
    · rw [get_putAll_none fun j o ho hd => hex ⟨j, o, by
        rw [List.getElem?_take] at ho
        split at ho
        · rename_i hj; exact ⟨hj, ho, hd⟩
        · cases ho⟩]
      exact hA.not s fun i v hi _ hv hd => hex ⟨i, v, hi, hv, hd⟩
  intro fuel
  induction fuel with
  | zero =>
    intro β F w a L hd hf hLA hs hA hk
    have hall : ∀ i, i < ops.length → L.getD i false = true := by
      intro i hi
      have h0 : undone ops L = 0 := by omega
      unfold undone at h0
      rw [List.length_eq_zero_iff, List.filter_eq_nil_iff] at h0
      have := h0 i (by simpa using hi)
      simpa using this
    have hn : nA = ops.length := by
      rcases Nat.lt_or_ge nA ops.length with h | h
      · have := hLA nA h (hall nA h); omega
      · omega
    have hlist : ∀ i, i < ops.length → (L.getD i false = true ↔ i < nA) := fun i hi => ⟨hLA i hi, fun _ => hall i hi⟩
    exact draw_rest hc htr 0 nA (Nat.le_refl _) hle hd hlist (by omega) hK hs ⟨⟨fun s => hfin β F w a L s hA fun j u hj _ _ => hall j (by omega), hs.glob⟩, hA.size, hA.defers⟩ hk
  | succ fuel ih =>
    intro β F w a L hd hf hLA hs hA hk
    by_cases hall : ∀ i, i < nA → L.getD i false = true
    · exact draw_rest hc htr (fuel + 1) nA (Nat.le_refl _) hle hd (fun i hi => ⟨hLA i hi, hall i⟩) (by
        -- the number of those not done
        have : ∀ (r : List Nat), (∀ i ∈ r, i < ops.length) → r.Nodup → r.length ≤ (r.filter fun i => decide (i < nA)).length + (r.filter fun i => !L.getD i false).length := by
          intro r
          induction r with
          | nil => intro _ _; simp
          | cons i r ihr =>
            intro h1 h2
            rw [List.nodup_cons] at h2
            have := ihr (fun j hj => h1 j (by simp [hj])) h2.2
            have hi := h1 i (by simp)
            rw [List.filter_cons, List.filter_cons, List.length_cons]
            by_cases hin : i < nA
            · rw [if_pos (by simpa using hin)]
              split <;> simp only [List.length_cons] <;> omega
            · have hb : L.getD i false = false := by
                cases hb : L.getD i false with
                | false => rfl
                | true => exact absurd (hLA i hi hb) hin
              rw [if_neg (by simpa using hin), if_pos (by rw [hb]; rfl)]
              simp only [List.length_cons]; omega
        have h1 := this (List.range ops.length) (by simp) List.nodup_range
        have h2 : ∀ n, ((List.range n).filter fun i => decide (i < nA)).length = min n nA := by
          intro n
          induction n with
          | zero => simp
          | succ n ihn =>
            rw [List.range_succ, List.filter_append, List.length_append, ihn]
            by_cases hn : n < nA
            · simp [hn]; omega
            · simp [hn]; omega
        have h2 := h2 ops.length
        rw [List.length_range] at h1
        unfold undone at hf
        omega) hK hs ⟨⟨fun s => hfin β F w a L s hA fun j u hj _ _ => hall j hj, hs.glob⟩, hA.size, hA.defers⟩ hk
    · refine ⟨fun h0 => absurd (fun i hi => first_ready hc hd h0 i (by omega)) hall, fun i hi => ?_⟩
      obtain ⟨o, ho, h3, h4⟩ := mem_ready hi
      have hil : i < ops.length := (List.getElem?_eq_some_iff.1 ho).1
      have hiL : i < L.size := by rw [hd.size]; exact hil
      have hiA : i < nA := by
        rcases Nat.lt_or_ge i nA with h5 | h5
        · exact h5
        · exact absurd (fun k hk => wait_all hc hd hi (hc.wait i hil h5 k (by omega))) hall
      obtain ⟨v, hv1, hv2, hv3, hv4, hv5⟩ := hlg i o ho
      have hd5 : v.dst.all (· < N) = true := by rw [hv4]; exact hv5
      have hxi : xs[i]? = some (xs[i]'(by omega)) := by simp [show i < xs.length from by omega]
      generalize hxx : xs[i]'(by omega) = x at hxi
      have hvt : (l.take nA)[i]? = some v := by rw [List.getElem?_take, if_pos hiA]; exact hv1
      -- what it reads is there
      have hrd : ∀ s ∈ v.rd, ∀ j u, j < nA → l[j]? = some u → u.dst = some s → ((cls ops).getD i 0).testBit j = true ∨ ((cls ops).getD j 0).testBit i = true := fun s hs' j u hj hu hus => hc.read i j v u s hiA hj hv1 hu hus hs'
      have hokf : Okq P v (forget v.rd (putAll e0 ((l.take nA).take i) (xs.take i))) H x := by
        refine Okq_congr (fun s hs' => ?_) (hok i v x hvt hxi)
        rw [get_forget, if_pos hs']
      have henv : EnvOk ⟨β, H, F⟩ w (forget v.rd (putAll e0 ((l.take nA).take i) (xs.take i))) a := by
        refine ⟨fun s => ?_, hs.glob⟩
        rw [get_forget]
        split
        · rename_i hs'
          by_cases hex : ∃ j u, j < nA ∧ l[j]? = some u ∧ u.dst = some s
          · obtain ⟨j, u, hj, hu, hus⟩ := hex
            have honce : ∀ (j' : Nat) o', l[j']? = some o' → j' < nA → j' ≠ j → o'.dst ≠ some s := fun j' o' ho' hj' hne hd' => hne (hc.once j' j o' u s hj' hj ho' hu hus hd')
            rcases hrd s hs' j u hj hu hus with hb | hb
            · have hji : j < i := bit_lt hc hil hb
              have hxj : xs[j]? = some (xs[j]'(by omega)) := by simp [show j < xs.length from by omega]
              have hu' : (l.take nA)[j]? = some u := by rw [List.getElem?_take, if_pos hj]; exact hu
              rw [get_putAll_some (l := (l.take nA).take i) (i := j) (by rw [List.getElem?_take, if_pos hji]; exact hu') (by rw [List.getElem?_take, if_pos hji]; exact hxj) hus fun j' o' ho' hne => by
                rw [List.getElem?_take] at ho'
                split at ho'
                · rw [List.getElem?_take] at ho'
                  split at ho'
                  · rename_i hj'; exact honce j' o' ho' hj' hne
                  · cases ho'
                · cases ho']
              exact hA.did j u _ s hj (wait_all hc hd hi hb) hu hxj hus
            · have hij : i < j := bit_lt hc (by omega) hb
              have hLj : L.getD j false ≠ true := by
                intro hLj
                have hjl : j < (cls ops).length := by rw [cls_length]; omega
                have hmj : (cls ops)[j]? = some ((cls ops).getD j 0) := by
                  rw [List.getD_eq_getElem?_getD, List.getElem?_eq_getElem hjl]; rfl
                have hoj : ops[j]? = some (ops[j]'(by omega)) := List.getElem?_eq_getElem (by omega)
                have hLi := cls_ok hmj hoj hd.closed (hd.closed j _ hoj hLj) hb
                have hLi' : L.getD i false = true := hLi
                rw [Array.getD_eq_getD_getElem?, Array.getElem?_eq_getElem hiL] at h3 hLi'
                simp at h3 hLi'; rw [h3] at hLi'; cases hLi'
              rw [get_putAll_none fun j' o' ho' hd' => by
                rw [List.getElem?_take] at ho'
                split at ho'
                · rename_i hj'i
                  rw [List.getElem?_take] at ho'
                  split at ho'
                  · rename_i hj'; exact honce j' o' ho' hj' (by omega) hd'
                  · cases ho'
                · cases ho']
              exact hA.not s fun i' v' hi' hL' hv' hd'' => by
                by_cases he : i' = j
                · exact hLj (he ▸ hL')
                · exact honce i' v' hv' hi' he hd''
          · rw [get_putAll_none fun j o' ho' hd' => hex ⟨j, o', by
              rw [List.getElem?_take] at ho'
              split at ho'
              · rw [List.getElem?_take] at ho'
                split at ho'
                · rename_i hj'; exact ⟨hj', ho', hd'⟩
                · cases ho'
              · cases ho'⟩]
            exact hA.not s fun i' v' hi' _ hv' hd'' => hex ⟨i', v', hi', hv', hd''⟩
        · exact Rep.any
      refine okq_step (all := ops) hv2 hv3 hs henv hokf ho ?_
      intro β' F' w' u hs' hl hx
      have hm := hl.mono hs
      have hd' := hd.set hi
      have hu := undone_set hd hi
      have hmono : ∀ j, (L.setIfInBounds i true).getD j false = true → j = i ∨ L.getD j false = true := by
        intro j hj
        by_cases hij : i = j
        · exact .inl hij.symm
        · right
          rw [Array.getD_eq_getD_getElem?, Array.getElem?_setIfInBounds_ne hij, ← Array.getD_eq_getD_getElem?] at hj; exact hj
      have hkeep : ∀ j, L.getD j false = true → (L.setIfInBounds i true).getD j false = true := by
        intro j hj
        by_cases hij : i = j
        · subst hij; simp [hiL]
        · rw [Array.getD_eq_getD_getElem?, Array.getElem?_setIfInBounds_ne hij, ← Array.getD_eq_getD_getElem?]; exact hj
      have hput : ∀ s, o.dst ≠ some s → (a.put o.dst u).tmps.getD s undef = a.tmps.getD s undef := by
        intro s hne
        cases hod : o.dst with
        | none => rfl
        | some d =>
          have : d ≠ s := fun e => hne (by rw [hod, e])
          show (a.tmps.setIfInBounds d u).getD s undef = _
          simp [Array.getElem?_setIfInBounds_ne this]
      refine ih hd' (by omega) (fun j hj hLj => (hmono j hLj).elim (fun e => e ▸ hiA) (hLA j hj)) hs' ⟨fun j v' x' d hj hLj hv' hx' hd'' => ?_, fun s hsn => ?_, ?_, ?_⟩ fun e' H' β'' F'' w'' a' k1 k2 k3 k4 => hk _ _ _ _ _ _ k1 k2 k3 (hl.trans k4)
      · by_cases hji : j = i
        · subst hji
          rw [hv1] at hv'; cases hv'
          rw [hxi] at hx'; cases hx'
          have hod : o.dst = some d := by rw [← hv4]; exact hd''
          have hdN : d < a.tmps.size := by rw [hA.size]; rw [hod] at hv5; simpa using hv5
          have : (a.put o.dst u).tmps.getD d undef = u := by
            rw [hod]; show (a.tmps.setIfInBounds d u).getD d undef = u
            simp [hdN]
          rw [this]; exact hx
        · have hne : o.dst ≠ some d := fun e => hji (hc.once j i v' v d hj hiA hv' hv1 (by rw [hv4]; exact e) hd'')
          rw [hput d hne]
          exact Rep.mono hm (hA.did j v' x' d hj ((hmono j hLj).resolve_left hji) hv' hx' hd'')
      · have hne : o.dst ≠ some s := fun e => hsn i v hiA (by simp [hiL]) hv1 (by rw [hv4]; exact e)
        rw [hput s hne]
        exact Rep.mono hm (hA.not s fun j v' hj hLj hv' => hsn j v' hj (hkeep j hLj) hv')
      · cases hod : o.dst with
        | none => exact hA.size
        | some d => simp [Act.put, hA.size]
      · cases hod : o.dst <;> exact hA.defers

/-- A STATEMENT WHOSE ORDER IS OPEN. -/
theorem draw_sound {id : Nat} {all : Array Oper} (hm : P.follows .mixedOrders = true) (htr : trL P N all.toList all.toList = some l) (hc : chkDraw all.toList l nA = true) {K : Env → List Ob → Prop} {e : Env} {H : List Ob} {β : Nat → Nat → Option (Nat × Nat)} {F : Nat → Prop} {w : World} {a : Act} {QQ : Exit → Act → World → Prop}
    (h : vq P (l.take nA) (fun e => vops P (l.drop nA) K e H) e H) (hs : Sim ⟨β, H, F⟩ w) (hf : Fr N D ⟨β, H, F⟩ w e a)
    (hk : ∀ e' H' β' F' w' a', K e' H' → Sim ⟨β', H', F'⟩ w' → Fr N D ⟨β', H', F'⟩ w' e' a' → Later ⟨β, H, F⟩ w ⟨β', H', F'⟩ w' → QQ .normal a' w') : (Code.region id all true).wpIn (fz ro) nn P QQ a w := by
  obtain ⟨all⟩ := all
  have hck := Chk.of hc
  obtain ⟨xs, h1, h2, h3⟩ := vq_run h
  have hll := (trL_get htr).1
  have hle := hck.le
  have hxl : xs.length = nA := by
    rw [h1, List.length_take]
    have : l.length = all.length := hll
    have : nA ≤ all.length := hle
    omega
  refine wpIn_region_any hm ?_
  have h0 : ∀ i, (Array.replicate all.length false).getD i false = false := by
    intro i; simp [Array.getD_eq_getD_getElem?, Array.getElem?_replicate]; split <;> rfl
  have hs0 : Sim ⟨β, H, F⟩ { w with drawn := w.drawn + 1 } := hs.heap rfl
  have hl0 : Later ⟨β, H, F⟩ w ⟨β, H, F⟩ { w with drawn := w.drawn + 1 } := Later.heap rfl rfl rfl rfl
  refine draw_first (ops := all) hck htr hxl h3 h2 all.length ⟨by simp, fun i o ho hi => by
    have hi' : (Array.replicate all.length false).getD i false = true := hi
    rw [h0] at hi'; cases hi'⟩ ?_ (fun i hi hL => by
    have hL' : (Array.replicate all.length false).getD i false = true := hL
    rw [h0] at hL'; cases hL') hs0 ⟨fun i v x d hi hL => (by
    have hL' : (Array.replicate all.length false).getD i false = true := hL
    rw [h0] at hL'; cases hL'), fun s _ => Rep.mono (hl0.mono hs) (hf.env.1 s), hf.size, hf.defers⟩ fun e' H' β' F' w' a' k1 k2 k3 k4 => hk _ _ _ _ _ _ k1 k2 k3 (hl0.trans k4)
  unfold undone
  exact Nat.le_trans (List.length_filter_le _ _) (by simp)
end sound
end Go.Proofs.Ytknphdcjopaaoaa
