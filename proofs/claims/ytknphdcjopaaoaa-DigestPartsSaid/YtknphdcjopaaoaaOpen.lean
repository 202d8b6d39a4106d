/- A slice of bytes that came in, as a list of bytes. No program in sight. -/
import Derived.Test.YtknphdcjopaaoaaMem
import Derived.OpenShut
namespace Go.Proofs.Ytknphdcjopaaoaa
open Go.RowKit

/-- What the row tells of a slice of numbers, for bytes. -/
theorem bytesOf {w : World} {a : Option Addr} {len cap : Nat} {zs : List Int}
    (h : (a = none ∧ len = 0 ∧ cap = 0 ∧ zs = []) ∨ ∃ x, a = some x ∧ len ≤ cap ∧ cap ≤ maxLen ∧ zs.length = cap ∧ (∀ i, i < zs.length → w.cell? (x.add i) = some (.int .u8 (zs.getD i 0))) ∧ ∀ n ∈ zs, (Lit.int .u8 n).wf = true) :
    ∃ l : List UInt8, l.length = len ∧ Bs w a l ∧ len ≤ cap ∧ cap ≤ 9223372036854775807 := by
  rcases h with ⟨rfl, rfl, rfl, rfl⟩ | ⟨x, rfl, hl, hm, hz, hc, hwf⟩
  · exact ⟨[], rfl, Bs.nil _ _, by omega, by omega⟩
  · unfold maxLen at hm
    refine ⟨(zs.take len).map fun z => UInt8.ofNat z.toNat, by simp; omega, fun j hj => ?_, hl, by omega⟩
    have hj' : j < len := by simp at hj; omega
    have hcj := hc j (by omega)
    obtain ⟨b, off, spot⟩ := x
    have hs : spot = none := by simpa [Addr.add] using World.cell?_spot (hc 0 (by omega))
    subst hs
    refine ⟨b, off, rfl, ?_⟩
    have hmem : zs.getD j 0 ∈ zs := by rw [show zs.getD j 0 = zs[j]'(by omega) from by simp [List.getD, show j < zs.length from by omega]]; exact List.getElem_mem _
    have hb := bounds_u8 (hwf _ hmem)
    rw [show (⟨b, off, none⟩ : Addr).add j = ⟨b, off + j, none⟩ from by simp [Addr.add]] at hcj
    rw [hcj]
    have e : ((zs.take len).map fun z => UInt8.ofNat z.toNat).getD j 0 = UInt8.ofNat (zs.getD j 0).toNat := by
      simp [List.getD, hj', show j < zs.length from by omega]
    rw [e, UInt8.toNat_ofNat', Nat.mod_eq_of_lt (by omega)]
    congr 2; omega
end Go.Proofs.Ytknphdcjopaaoaa
