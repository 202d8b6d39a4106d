import Derived.Test.YtfgljddikcghhaaDoorVzOk
namespace Go.Proofs.YtfgljddikcghhaaDoor
open Go.RowKit
variable [Globs]
set_option linter.unusedSectionVars false
set_option linter.unusedVariables false

section
omit [Globs]
theorem valM_step (l : List Bool) (b : Bool) : valM (l ++ [b]) = valM l * 2 + (if b then 1 else 0) := by unfold valM; rw [List.foldl_append]; rfl
theorem foldM_take : ∀ (N v k acc : Nat), k ≤ N → ((bitsM N v).take k).foldl (fun a b => a * 2 + (if b then 1 else 0)) acc = acc * 2 ^ k + v / 2 ^ (N - k) % 2 ^ k
 | N, v, 0, acc, h => by simp [Nat.mod_one]
 | 0, v, k + 1, acc, h => by omega
 | N + 1, v, k + 1, acc, h => by
  have hb : (if (v / 2 ^ N % 2 == 1) = true then 1 else 0) = v / 2 ^ N % 2 := by
   rcases Nat.mod_two_eq_zero_or_one (v / 2 ^ N) with h | h <;> simp [h]
  rw [bitsM, List.take_succ_cons, List.foldl_cons, hb, foldM_take N v k _ (by omega), show N + 1 - (k + 1) = N - k by omega]
  have e1 : v / 2 ^ N = v / 2 ^ (N - k) / 2 ^ k := by rw [Nat.div_div_eq_div_mul, ← Nat.pow_add, Nat.sub_add_cancel (by omega)]
  rw [e1]
  generalize v / 2 ^ (N - k) = x
  rw [Nat.pow_succ, Nat.mod_mul, Nat.add_mul, Nat.mul_assoc acc 2 (2 ^ k), Nat.mul_comm 2 (2 ^ k), Nat.mul_comm (x / 2 ^ k % 2) (2 ^ k)]
  omega
theorem valM_take {N v k : Nat} (h : k ≤ N) (hv : v < 2 ^ N) : valM ((bitsM N v).take k) = v / 2 ^ (N - k) := by
 unfold valM
 rw [foldM_take N v k 0 h, Nat.zero_mul, Nat.zero_add, Nat.mod_eq_of_lt]
 rw [Nat.div_lt_iff_lt_mul (Nat.two_pow_pos _), ← Nat.pow_add, Nat.add_comm, Nat.sub_add_cancel h]
 exact hv
theorem valM_bits {N v : Nat} (hv : v < 2 ^ N) : valM (bitsM N v) = v := by
 have := valM_take (k := N) (Nat.le_refl _) hv
 rwa [List.take_of_length_le (by rw [bitsM_len]; omega), Nat.sub_self, Nat.pow_zero, Nat.div_one] at this
theorem snocInd {P : List Bool → Prop} (h0 : P []) (h1 : ∀ l b, P l → P (l ++ [b])) : ∀ l, P l := by
 intro l
 rw [← List.reverse_reverse l]
 induction l.reverse with
 | nil => exact h0
 | cons b r ih => rw [List.reverse_cons]; exact h1 _ _ ih
theorem valM_inj : ∀ (l m : List Bool), l.length = m.length → valM l = valM m → l = m := by
 refine snocInd (fun m h _ => (List.length_eq_zero_iff.1 h.symm).symm) fun l b ih m h hv => ?_
 rcases List.eq_nil_or_concat m with rfl | ⟨m', c, rfl⟩
 ·simp at h
 ·rw [List.concat_eq_append] at *
  rw [valM_step, valM_step] at hv
  have hlen : l.length = m'.length := by simpa using h
  have hbc : b = c ∧ valM l = valM m' := by cases b <;> cases c <;> simp at hv ⊢ <;> omega
  rw [hbc.1, ih m' hlen hbc.2]
/-- The first i symbols' code. -/
def Cf (ls : List Nat) (i : Nat) (q : List Bool) : Option Nat := (List.range i).find? fun s => decide (ls[s]? = some q.length ∧ q.length ≠ 0 ∧ codeN ls q.length s = valM q)
theorem Cf_none {ls : List Nat} {i : Nat} {q : List Bool} (h : ∀ s, s < i → ¬ (ls[s]? = some q.length ∧ q.length ≠ 0 ∧ codeN ls q.length s = valM q)) : Cf ls i q = none := by
 unfold Cf
 rw [List.find?_range_eq_none]
 intro j hj
 rw [Bool.not_eq_true', decide_eq_false_iff_not]
 exact h j hj
theorem Cf_succ (ls : List Nat) (i : Nat) (q : List Bool) : Cf ls (i + 1) q = match Cf ls i q with
  | some s => some s
  | none => if ls[i]? = some q.length ∧ q.length ≠ 0 ∧ codeN ls q.length i = valM q then some i else none := by
 unfold Cf
 rw [List.range_succ, List.find?_append]
 cases (List.range i).find? fun s => decide (ls[s]? = some q.length ∧ q.length ≠ 0 ∧ codeN ls q.length s = valM q) with
 | some s => rfl
 | none =>
  simp only [Option.none_or, List.find?_cons, List.find?_nil]
  by_cases h : ls[i]? = some q.length ∧ q.length ≠ 0 ∧ codeN ls q.length i = valM q
  ·rw [if_pos h, decide_eq_true h]
  ·rw [if_neg h, decide_eq_false h]
theorem count_lt {ls : List Nat} {n s : Nat} (h : ls[s]? = some n) : (ls.take s).count n < ls.count n := by
 have hs : s < ls.length := (List.getElem?_eq_some_iff.1 h).1
 have h1 : (ls.take (s + 1)).count n ≤ ls.count n := List.Sublist.count_le n (List.take_sublist _ _)
 rw [List.take_add_one, h, List.count_append] at h1
 simp at h1
 omega
theorem count_lt2 {ls : List Nat} {n s i : Nat} (h : ls[s]? = some n) (hi : s < i) : (ls.take s).count n < (ls.take i).count n := by
 have h2 : (ls.take i)[s]? = some n := by rw [List.getElem?_take, if_pos hi]; exact h
 have := count_lt h2
 rwa [List.take_take, Nat.min_eq_left (by omega)] at this
theorem stN_grow (ls : List Nat) (m : Nat) (hm : 1 ≤ m) : ∀ d, (stN ls m + ls.count m) * 2 ^ (d + 1) ≤ stN ls (m + (d + 1))
 | 0 => by
  obtain ⟨k, rfl⟩ : ∃ k, m = k + 1 := ⟨m - 1, by omega⟩
  rw [show k + 1 + (0 + 1) = k + 2 by omega, stN]
  simp
 | d + 1 => by
  have h := stN_grow ls m hm d
  obtain ⟨k, hk⟩ : ∃ k, m + (d + 1) = k + 1 := ⟨m + d, by omega⟩
  rw [show m + (d + 1 + 1) = k + 2 by omega, stN, ← hk]
  rw [Nat.pow_succ, ← Nat.mul_assoc]
  omega
theorem code_lt {ls : List Nat} (hok : leftOk ls 15) {n i : Nat} (hn : n + 1 ≤ 15) (hi : ls[i]? = some (n + 1)) : codeN ls (n + 1) i < 2 ^ (n + 1) := by
 have h1 := (stN_le ls hok (n + 1) (by omega)).2 (by omega) hn
 have h2 := count_lt hi
 unfold codeN; omega
theorem Cf_free {ls : List Nat} (hok : leftOk ls 15) {n i : Nat} (hn : n + 1 ≤ 15) (hi : ls[i]? = some (n + 1)) {k : Nat} (h1 : 1 ≤ k) (h2 : k ≤ n) : Cf ls i ((bitsM (n + 1) (codeN ls (n + 1) i)).take k) = none := by
 have hlt := code_lt hok hn hi
 have hlen : ((bitsM (n + 1) (codeN ls (n + 1) i)).take k).length = k := by rw [List.length_take, bitsM_len]; omega
 refine Cf_none fun s hs ⟨c1, _, c2⟩ => ?_
 rw [hlen] at c1 c2
 rw [valM_take (by omega) hlt] at c2
 have h3 : codeN ls k s < stN ls k + ls.count k := by have := count_lt c1; unfold codeN; omega
 obtain ⟨d, hd⟩ : ∃ d, n + 1 - k = d + 1 := ⟨n - k, by omega⟩
 have h4 := stN_grow ls k h1 d
 rw [show k + (d + 1) = n + 1 by omega] at h4
 rw [hd] at c2
 have h5 : stN ls k + ls.count k ≤ codeN ls (n + 1) i / 2 ^ (d + 1) := by
  rw [Nat.le_div_iff_mul_le (Nat.two_pow_pos _)]
  have : stN ls (n + 1) ≤ codeN ls (n + 1) i := by unfold codeN; omega
  omega
 omega
theorem Cf_upd {ls : List Nat} (hok : leftOk ls 15) {n i : Nat} (hn : n + 1 ≤ 15) (hi : ls[i]? = some (n + 1)) : Cf ls (i + 1) = updM (Cf ls i) ([] ++ bitsM (n + 1) (codeN ls (n + 1) i)) i := by
 have hlt := code_lt hok hn hi
 funext q
 rw [Cf_succ, List.nil_append]
 by_cases hq : q = bitsM (n + 1) (codeN ls (n + 1) i)
 ·subst hq
  rw [updM_same, Cf_none]
  ·simp only
   rw [if_pos]
   rw [bitsM_len, valM_bits hlt]
   exact ⟨hi, by omega, rfl⟩
  ·rintro s hs ⟨c1, _, c2⟩
   rw [bitsM_len] at c1 c2
   rw [valM_bits hlt] at c2
   have := count_lt2 c1 hs
   unfold codeN at c2
   omega
 ·rw [updM_other hq]
  cases hC : Cf ls i q with
  | some s => rfl
  | none =>
   simp only
   rw [if_neg]
   rintro ⟨c1, _, c2⟩
   rw [hi] at c1
   have e : n + 1 = q.length := by simpa using c1
   rw [← e] at c2
   exact hq (valM_inj _ _ (by rw [bitsM_len, e]) (by rw [valM_bits hlt, c2]))
theorem grow_inv {ls : List Nat} (h15 : ∀ n ∈ ls, n ≤ 15) (hok : leftOk ls 15) : ∀ i, i ≤ ls.length → ∃ P, InvT (growT ls i) P (Cf ls i)
 | 0, _ => by
  refine ⟨fun q => if q = [] then some 0 else none, ⟨rfl, fun p a h => ?_, fun p q a h1 h2 => ?_, fun p a b h => ?_, fun p b h => ?_, fun c b h => ?_⟩⟩
  ·split at h
   ·cases h; simp [growT]
   ·cases h
  ·split at h1
   ·split at h2
    ·rename_i e1 e2; rw [e1, e2]
    ·cases h2
   ·cases h1
  ·split at h
   ·cases h
    have : Cf ls 0 (p ++ [b]) = none := Cf_none fun s hs => by omega
    unfold valT
    rw [this]
    simp [growT, slotT]
   ·cases h
  ·simp at h
  ·exact absurd (Cf_none fun s hs => by omega) h
 | i + 1, hi => by
  obtain ⟨P, hP⟩ := grow_inv h15 hok i (by omega)
  obtain ⟨n, hn⟩ : ∃ n, ls[i]? = some n := ⟨_, List.getElem?_eq_getElem (by omega)⟩
  have hn15 := h15 n (List.mem_of_getElem? hn)
  cases n with
  | zero =>
   refine ⟨P, ?_⟩
   have hg : growT ls (i + 1) = growT ls i := by rw [growT, hn]
   have hc : Cf ls (i + 1) = Cf ls i := by
    funext q
    rw [Cf_succ]
    cases Cf ls i q with
    | some s => rfl
    | none =>
     simp only
     rw [if_neg]
     rintro ⟨c1, c2, _⟩
     rw [hn] at c1
     exact c2 (by simpa using c1.symm)
   rw [hg, hc]; exact hP
  | succ n =>
   have hg : growT ls (i + 1) = addT n (growT ls i) 0 (codeN ls (n + 1) i) i := by rw [growT, hn]
   obtain ⟨_, P', hP'⟩ := addT_inv n (s := i) (code := codeN ls (n + 1) i) hP hP.root (fun k h1 h2 => by rw [List.nil_append]; exact Cf_free hok hn15 hn h1 h2)
   exact ⟨P', by rw [hg, Cf_upd hok hn15 hn]; exact hP'⟩
theorem grow_ok {ls : List Nat} (h15 : ∀ n ∈ ls, n ≤ 15) (hok : leftOk ls 15) : GrowOk ls := fun i n hn => by
 obtain ⟨P, hP⟩ := grow_inv h15 hok i (Nat.le_of_lt (List.getElem?_eq_some_iff.1 hn).1)
 exact (addT_inv n (s := i) (code := codeN ls (n + 1) i) hP hP.root (fun k h1 h2 => by rw [List.nil_append]; exact Cf_free hok (h15 _ (List.mem_of_getElem? hn)) hn h1 h2)).1
theorem srch_stop {C : List Bool → Option Nat} : ∀ (B p : List Bool), (∀ q, p.length < q.length → C q = none) → srch C p B = none
 | [], p, h => rfl
 | b :: B, p, h => by
  rw [srch, h (p ++ [b]) (by simp)]
  exact srch_stop B _ fun q hq => h q (by simp at hq; omega)
end
/-- The document's reader looks for the same. -/
theorem findC_eq {ls : List Nat} (h15 : ∀ n ∈ ls, n ≤ 15) (q : List Bool) (hq : q.length ≠ 0) : findC ls (CSt.all ls 15).bs q.length (valM q) = Cf ls ls.length q := by
 unfold findC Cf
 congr 1
 funext s
 by_cases h : ls[s]? = some q.length
 ·obtain ⟨m, hm⟩ : ∃ m, q.length = m + 1 := ⟨q.length - 1, by omega⟩
  rw [hm] at h ⊢
  have hle := h15 _ (List.mem_of_getElem? h)
  rw [all_bs ls h 15 hle]
  simp [h]
 ·simp [h]
theorem symC_srch {ls : List Nat} (h15 : ∀ n ∈ ls, n ≤ 15) : ∀ (k : Nat) (p B : List Bool), p.length + k = 15 → (symC ls (CSt.all ls 15).bs k p.length (valM p) B).map (fun x => (x.1, (p ++ B).drop x.2)) = srch (Cf ls ls.length) p B
 | 0, p, B, h => by
  rw [symC, srch_stop]
  ·rfl
  ·intro q hq
   refine Cf_none fun s hs ⟨c1, _⟩ => ?_
   have := h15 _ (List.mem_of_getElem? c1)
   omega
 | k + 1, p, [], h => by rw [symC, srch]; rfl
 | k + 1, p, b :: B, h => by
  have hst := valM_step p b
  have hl : (p ++ [b]).length = p.length + 1 := by simp
  have hf := findC_eq h15 (p ++ [b]) (by simp)
  rw [hl, hst] at hf
  rw [symC, srch, hf]
  cases hC : Cf ls ls.length (p ++ [b]) with
  | some s =>
   simp only [Option.map_some]
   rw [show p ++ b :: B = (p ++ [b]) ++ B by simp, List.drop_left' hl]
  | none =>
   simp only
   have ih := symC_srch h15 k (p ++ [b]) B (by rw [hl]; omega)
   rw [hl, hst, List.append_assoc] at ih
   exact ih
theorem rdR_srch {ls : List Nat} (h15 : ∀ n ∈ ls, n ≤ 15) (B : List Bool) : rdR ls B = srch (Cf ls ls.length) [] B := by
 have := symC_srch h15 15 [] B rfl
 rw [← this]
 rfl
/-- The tree reads as the document's code. -/
theorem sym_eq {ls : List Nat} (h15 : ∀ n ∈ ls, n ≤ 15) (hok : leftOk ls 15) : symT (growT ls ls.length) 0 = rdR ls := by
 funext B
 obtain ⟨P, hP⟩ := grow_inv h15 hok ls.length (Nat.le_refl _)
 rw [hP.sym B [] 0 hP.root, rdR_srch h15]
end Go.Proofs.YtfgljddikcghhaaDoor

