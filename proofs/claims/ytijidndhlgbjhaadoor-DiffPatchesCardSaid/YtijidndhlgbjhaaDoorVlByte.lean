/- bytes.IndexByte: where the byte lies first. -/
import Derived.Test.YtijidndhlgbjhaaDoorProg
import Derived.Test.YtijidndhlgbjhaaDoorBaseC
import Derived.WalkKit
import Derived.Lib.BytesEntry
import Derived.Shelf.Bytes.SlIndexAt
namespace Go.Proofs.YtijidndhlgbjhaaDoor
open Go.RowKit
variable [Globs]
set_option linter.unusedSectionVars false
set_option linter.unusedVariables false

set_option maxHeartbeats 2000000 in
set_option maxRecDepth 100000 in
theorem indexByte_at (a : Addr) (n c : Nat) (xs : List Int) (cv : Int) (w : World) (hx : xs.length = n) (hc : ∀ i, i < n → w.cell? (a.add i) = some (.int .u8 (xs.getD i 0))) :
    Calls Tryd.prog 206 #[.slice (some a) n c, .int .u8 cv] w fun e w' => e = .returned (.int .i64 (Lib.indexByte (Lib.bytesOf xs) cv.toNat.toUInt8)) ∧ w' = w := by
  go_enter Tryd.func206, Tryd.ntmps206
  go_wp2
  rw [run_callFunc_extern Tryd.func224 (by kernel_rfl) (by kernel_rfl) (by kernel_rfl) (e := Extern.BytealgIndexByte.indexByte) (by kernel_rfl), Lib.run_indexByteAt w a n c xs hx hc cv]
  simp only [Result.andThen]
  rw [Oper.upon_value]
  go_wp2
  go_ret
  exact ⟨rfl, rfl⟩
set_option maxHeartbeats 2000000 in
set_option maxRecDepth 100000 in
theorem indexByte_nil (n c : Nat) (cv : Int) (w : World) :
    Calls Tryd.prog 206 #[.slice none n c, .int .u8 cv] w fun e w' => e = .returned (.int .i64 (-1)) ∧ w' = w := by
  go_enter Tryd.func206, Tryd.ntmps206
  go_wp2
  rw [run_callFunc_extern Tryd.func224 (by kernel_rfl) (by kernel_rfl) (by kernel_rfl) (e := Extern.BytealgIndexByte.indexByte) (by kernel_rfl), Lib.run_indexByteNil w n c cv]
  simp only [Result.andThen]
  rw [Oper.upon_value]
  go_wp2
  go_ret
  exact ⟨rfl, rfl⟩

theorem VPure.indexByte (l : List UInt8) (c : UInt8) : VPure Tryd.prog 206 [slB l, by8 c] (fun x => x = .val (.int .i64 (Lib.indexByte l c))) := by
  intro β F w vs hF hv
  obtain ⟨v, us, rfl, h1, hv⟩ := RepL.cons.1 hv
  obtain ⟨v2, us, rfl, h2, hv⟩ := RepL.cons.1 hv
  rw [RepL.nil] at hv; subst hv
  have h2' : v2 = .int .u8 c.toNat := by
    have := Rep.val.1 (Or.inl h2 : Rep _ _ _ _); exact this
  subst h2'
  have hcv : ((c.toNat : Int)).toNat.toUInt8 = c := by
    rw [Int.toNat_natCast]; simp
  have fin : ∀ e w', (e = Ending.returned (.int .i64 (Lib.indexByte l c)) ∧ w' = w) → ∃ v x F', e = .returned v ∧ x = .val (.int .i64 (Lib.indexByte l c)) ∧ Rep ⟨β, [], F'⟩ w' x v ∧ Stays F w F' w' := by
    rintro e w' ⟨rfl, rfl⟩
    exact ⟨_, _, F, rfl, rfl, Rep.of_val, ⟨rfl, rfl, rfl, Nat.le_refl _, fun _ _ => rfl, fun _ h => h, fun _ _ h => h, hF.1⟩⟩
  have hr0 : Rep ⟨β, [], F⟩ w (slB l) v := Or.inl h1
  have hr := hr0.sl
  obtain ⟨hw, hr⟩ := hr
  rcases hr with ⟨he, ad, cap, rfl, _⟩ | ⟨b, off, cap, us, rfl, h3, h4, h5, h6, h7⟩
  · have hl : l = [] := by simpa using he
    subst hl
    cases ad with
    | none => exact (indexByte_nil 0 cap _ w).mono fun e w' h => fin e w' h
    | some ad =>
      refine (indexByte_at ad 0 cap [] c.toNat w rfl (fun i hi => by omega)).mono fun e w' h => fin e w' ?_
      exact h
  · have hb := bytes_of (fun y hy => by obtain ⟨b, _, rfl⟩ := List.mem_map.1 hy; exact isBy_by8 b) h6
    rw [unby_all] at hb
    refine (indexByte_at ⟨b, off, none⟩ (l.map by8).length cap (l.map fun b : UInt8 => (b.toNat : Int)) c.toNat w (by simp) (fun i hi => ?_)).mono fun e w' h => fin e w' ?_
    · rw [addr_add]
      have hi' : i < l.length := by simpa using hi
      refine h7 i _ ?_
      rw [hb, List.getElem?_map, List.getElem?_eq_getElem hi', List.getD_eq_getElem?_getD, List.getElem?_map, List.getElem?_eq_getElem hi']
      rfl
    · rw [hcv] at h
      have : Lib.bytesOf (l.map fun b : UInt8 => (b.toNat : Int)) = l := by
        simp [Lib.bytesOf, List.map_map, Function.comp_def]
      rw [this] at h; exact h
end Go.Proofs.YtijidndhlgbjhaaDoor
