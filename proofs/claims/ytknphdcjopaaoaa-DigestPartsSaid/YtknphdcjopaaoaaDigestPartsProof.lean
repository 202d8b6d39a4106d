/- DigestParts: whatever the parts, the digests agree however the parts come. No condition. -/
import Derived.Test.YtknphdcjopaaoaaRows
import Derived.WalkKit
import Derived.ProofKit
import Derived.OpenShut
import Derived.ChangeOld
import Derived.Below
import Derived.SizedLaws
import Derived.Deep.Matrix
import Derived.Test.YtknphdcjopaaoaaOpen
import Derived.Test.YtknphdcjopaaoaaDigestPartsWalk
namespace Go.Proofs.Ytknphdcjopaaoaa.digestParts
open Go.ChangeShapes Go.WideShapes Go.ChangeAt Go.RowKit Go.Deep
set_option linter.unusedVariables false

theorem own : ownKnob Try.prog.godebug = none := by kernel_rfl
theorem laidOut : laidOutB Try.prog = true := by kernel_rfl
theorem byte1 : Try.prog.bytesOf 5 = 1 := by kernel_rfl

theorem weightsAll_mem {H : Type} {P : Program} {e : TypeId} {d : DataW H} {n : Nat} (hn : n ∈ d.weights P e) : ∀ {ds : List (DataW H)}, d ∈ ds → n ∈ DataW.weightsAll P e ds
  | d0 :: ds, h => by
    simp only [DataW.weightsAll, List.mem_append]
    rcases List.mem_cons.1 h with rfl | h
    · exact Or.inl hn
    · exact Or.inr (weightsAll_mem hn h)

/-- Of each row within the length: its capacity is within the reach. -/
theorem row_reach {H : Type} {ds : List (DataW H)} {xs sp : List (DataW H)} {ts : List TypeId} (hsz : (DataW.weightsEach Try.prog (29 :: ts) (.slice xs sp :: ds)).all (· ≤ reachBytes) = true)
    {a : Addr} {L C : Nat} {Z : List Int} (hm : intRow .u8 (some a) L Z ∈ xs) (hz : Z.length = C) (hL : L ≤ C) : C ≤ 140737488355328 := by
  have hw : C * Try.prog.bytesOf 5 ∈ (intRow (H := H) .u8 (some a) L Z).weights Try.prog 22 := by
    have : ((lits (H := H) .u8 (Z.take L)).length + (lits (H := H) .u8 (Z.drop L)).length) = C := by simp [lits]; omega
    simp only [intRow, DataW.weights, Try.underlying22, this]
    exact List.mem_cons_self
  have h2 : C * Try.prog.bytesOf 5 ≤ reachBytes := of_decide_eq_true (List.all_eq_true.1 hsz _ (by
    have := weightsAll_mem hw hm
    simp only [DataW.weightsEach, DataW.weights, Try.underlying29, List.mem_append, List.mem_cons]
    exact Or.inl (Or.inr (Or.inl this))))
  rw [byte1] at h2
  simp only [reachBytes] at h2
  omega

/-- The rows, as lists of bytes. -/
theorem rowBytes {w : World} {A : Option Addr} {L C : Nat} {Z : List Int} (hL : L ≤ C) (hC : C ≤ maxLen) (hz : Z.length = C) (hwf : ∀ n ∈ Z, (Lit.int .u8 n).wf = true) (hn : A = none → C = 0)
    (hc : ∀ a', A = some a' → ∀ c, c < C → w.cell? (a'.add c) = some (.int .u8 (Z.getD c 0))) : ∃ l : List UInt8, l.length = L ∧ Bs w A l := by
  cases A with
  | none =>
    have := hn rfl
    exact ⟨[], by simp; omega, Bs.nil _ _⟩
  | some a' =>
    obtain ⟨l, h1, h2, _, _⟩ := bytesOf (w := w) (a := some a') (len := L) (cap := C) (zs := Z) (.inr ⟨a', rfl, hL, hC, hz, (fun i hi => hc a' rfl i (by omega)), hwf⟩)
    exact ⟨l, h1, h2⟩

theorem rowsOf {w : World} {a : Addr} {n : Nat} {A : Nat → Option Addr} {L C : Nat → Nat} (hs : 0 < n → a.spot = none)
    (h : ∀ r, r < n → w.cell? (a.add r) = some (.slice (A r) (L r) (C r)) ∧ L r ≤ C r ∧ C r ≤ 140737488355328 ∧ ∃ l : List UInt8, l.length = L r ∧ Bs w (A r) l) :
    ∃ ps : List (List UInt8), ps.length = n ∧ Parts w (some a) ps := by
  induction n with
  | zero => exact ⟨[], rfl, fun i hi => by simp at hi⟩
  | succ n ih =>
    obtain ⟨ps, hl, hp⟩ := ih (fun _ => hs (by omega)) (fun r hr => h r (by omega))
    obtain ⟨hc, h1, h2, l, hll, hb⟩ := h n (by omega)
    obtain ⟨b, off, spot⟩ := a
    have e : spot = none := hs (by omega)
    subst e
    refine ⟨ps ++ [l], by simp [hl], fun i hi => ?_⟩
    simp at hi
    by_cases hin : i < n
    · obtain ⟨b', off', x, c, he, hc', h1', h2', hb'⟩ := hp i (by omega)
      have e : (ps ++ [l]).getD i [] = ps.getD i [] := by simp [List.getD, List.getElem?_append_left (show i < ps.length by omega)]
      rw [e]
      exact ⟨b', off', x, c, he, hc', h1', h2', hb'⟩
    · have hi' : i = n := by omega
      subst hi'
      have e : (ps ++ [l]).getD i [] = l := by simp [List.getD, ← hl]
      rw [e]
      rw [show (⟨b, off, none⟩ : Addr).add i = ⟨b, off + i, none⟩ from by simp [Addr.add]] at hc
      exact ⟨b, off, A i, C i, rfl, by rw [hll]; exact hc, by rw [hll]; exact h1, h2, hb⟩

set_option maxRecDepth 100000 in
theorem lifted (os : Os) (started : os.Started) (H : Type) (enc : TypeId × Value → H) :
    ReturnsInHanded {} Try.checked os 5 .any (Rows.digestPartsSpec.pre6 enc Try.prog Try.f5 Rows.digestPartsRow.domain false) (Rows.digestPartsSpec.post enc Try.prog Try.f5 false true false false) := by
  refine returnsInHanded_of_change_sized (C := Try.checked) own started (by kernel_rfl) Try.func5
    (ChangeSpec.witness6 (enc := enc) (C := Try.checked) false ⟨#[], #[.slice none 0 0], []⟩ 8 (by kernel_rfl) (by kernel_rfl) (by kernel_rfl) (by kernel_rfl)) ?_
  intro W base args ds gs before hval0 hW hcnd hsz0 _
  have hsz : (DataW.weightsEach Try.prog (Try.f5.params.toList ++ Rows.digestPartsSpec.plain.varTypes Try.prog) (ds ++ gs)).all (· ≤ reachBytes) = true := hsz0
  have hval : ∀ (j : Nat) t v, Try.f5.params[j]? = some t → args[j]? = some v → Value.okWide Try.prog W .any base t v := hval0
  have hW' := hW
  obtain ⟨p, q, hA0, hV, rfl, hfz, hnd⟩ := hW
  have hA : DataW.TrodAll enc Try.prog W 0 (fun _ => true) true Try.f5.params.toList args.toList ds p := hA0
  rw [Try.params5] at hA hval hsz
  obtain ⟨v0, vs0, d0, ds0, p0, q0, hargs, rfl, rfl, h0, r0⟩ := trodAll_cons hA
  obtain ⟨rfl, rfl, rfl⟩ := trodAll_nil r0
  obtain rfl : args = #[v0] := by cases args; simp_all
  obtain ⟨rfl, rfl⟩ := trodVars_none hV
  obtain ⟨a0, len0, cap0, rfl⟩ := okWide_slice Try.underlying29 (hval 0 29 v0 rfl rfl)
  have k0 := h0
  have lt0 : ∀ x ∈ p0, x.block < W.heap.size := by obtain ⟨m, hm⟩ := k0; exact DataW.trod_lt m _ _ _ hm
  obtain ⟨ps, rfl, hP, hlc⟩ : ∃ ps : List (List UInt8), ps.length = len0 ∧ Parts W a0 ps ∧ ps.length ≤ 9223372036854775807 := by
    obtain ⟨fuel, hf⟩ := h0
    rcases open_int_rows Try.underlying29 Try.underlying22 Try.underlying5 (by kernel_rfl) (by kernel_rfl) hf with ⟨hcs, _⟩ | ⟨a, len, cap, A, L, C, Z, hcs, _, hl, hm, hx, hrows⟩
    · simp [Value.cells] at hcs
      obtain ⟨rfl, rfl, rfl⟩ := hcs
      exact ⟨[], rfl, (fun i hi => by simp at hi), by simp⟩
    · simp [Value.cells] at hcs
      obtain ⟨rfl, rfl, rfl⟩ := hcs
      simp only [Prod.mk.injEq] at hx
      obtain ⟨rfl, _⟩ := hx
      have hcl : cap0 ≤ 9223372036854775807 := by unfold maxLen at hm; omega
      obtain ⟨ps, h1, h2⟩ := rowsOf (w := W) (a := a) (n := len0) (A := A) (L := L) (C := C)
        (fun h => by have hc0 := (hrows 0 (by omega)).1; obtain ⟨b, off, spot⟩ := a; simpa [Addr.add] using World.cell?_spot hc0)
        (fun r hr => by
          obtain ⟨hc, hLC, hCm, hZ, hwf, hn, hcc⟩ := hrows r (by omega)
          refine ⟨hc, hLC, ?_, rowBytes hLC hCm hZ hwf hn (fun a' ha c hc => (hcc a' ha).2 c hc)⟩
          cases hAr : A r with
          | none => rw [hn hAr]; omega
          | some a' =>
            refine row_reach hsz (a := a') (L := L r) (Z := Z r) ?_ hZ hLC
            refine List.mem_map.2 ⟨r, by simpa using hr, by rw [hAr]⟩)
      exact ⟨ps, h1, h2, by omega⟩
  clear hA0 hval0 hsz hsz0
  refine (partsWalk a0 cap0 ps W hP hlc).mono fun e W' ⟨he, bel⟩ => ?_
  subst he
  exact ⟨_, rfl, _, _, _, [], _, [], hW', trodAll_mk1 (shut_bool Try.underlying4 _), (trodAll_cons_mk (Below.trod laidOut (by kernel_rfl) (of_decide_eq_true (by kernel_rfl)) k0 bel lt0) trodAll_mk0), rfl, bel.frame _, fun h => by cases h⟩

theorem over : Rows.digestPartsRow.holds Try.pinned (OpenSpec.ofChange Rows.digestPartsSpec) :=
  OpenClaim.holds_of_wide 5 Try.f5 rfl rfl rfl rfl rfl rfl rfl ⟨rfl, rfl, rfl, rfl, rfl⟩ rfl rfl rfl rfl rfl (by kernel_rfl) Try.func5 (by kernel_rfl)
    (of_decide_eq_true (by kernel_rfl)) (by unfold Func.isWrapper; first | (rw [if_pos (by decide +kernel)]; kernel_rfl) | (rw [if_neg (by decide +kernel)]; exact ⟨rfl, rfl⟩))
    (fun os started H enc _ => lifted os started H enc)

theorem proved : Rows.DigestPartsSaid := over
#print axioms proved
end Go.Proofs.Ytknphdcjopaaoaa.digestParts
