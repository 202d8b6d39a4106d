/- strings.IndexByte: where the byte lies first. -/
import Derived.Test.YtijidndhlgbjhaaDoorProg
import Derived.Test.YtijidndhlgbjhaaDoorBaseC
import Derived.Lib.Bytealg
import Derived.WalkKit
namespace Go.Proofs.YtijidndhlgbjhaaDoor
open Go.RowKit
variable [Globs]
set_option linter.unusedSectionVars false
set_option linter.unusedVariables false

set_option maxHeartbeats 2000000 in
set_option maxRecDepth 100000 in
theorem sIndexByte_at (s : ByteArray) (cv : Int) (w : World) :
    Calls Tryd.prog 199 #[.string s, .int .u8 cv] w fun e w' => e = .returned (.int .i64 (Lib.indexByte s.data.toList cv.toNat.toUInt8)) ∧ w' = w := by
  go_enter Tryd.func199, Tryd.ntmps199
  go_wp2
  rw [run_callFunc_extern Tryd.func222 (by kernel_rfl) (by kernel_rfl) (by kernel_rfl) (e := Extern.BytealgIndexByte.indexByte) (by kernel_rfl), Lib.run_indexByteString s cv w]
  simp only [Result.andThen]
  rw [Oper.upon_value]
  go_wp2
  go_ret
  exact ⟨rfl, rfl⟩
theorem VPure.ofCalls {f : FuncId} {args : List Value} {r : Value} (h : ∀ w, Calls Tryd.prog f args.toArray w fun e w' => e = .returned r ∧ w' = w) : VPure Tryd.prog f (args.map .val) (fun x => x = .val r) := by
  intro β F w vs hF hv
  have hvs : vs = args := by
    clear h hF
    induction args generalizing vs with
    | nil => rw [List.map_nil, RepL.nil] at hv; exact hv
    | cons a args ih =>
      rw [List.map_cons] at hv
      obtain ⟨v, us, rfl, h1, h2⟩ := RepL.cons.1 hv
      have := Rep.val.1 (Or.inl h1 : Rep _ _ _ _)
      rw [this, ih us h2]
  subst hvs
  refine (h w).mono ?_
  rintro e w' ⟨rfl, rfl⟩
  exact ⟨_, _, F, rfl, rfl, Rep.of_val, ⟨rfl, rfl, rfl, Nat.le_refl _, fun _ _ => rfl, fun _ h => h, fun _ _ h => h, hF.1⟩⟩
theorem sIndexByteL (l : List UInt8) (c : UInt8) : VPure Tryd.prog 199 [.val (.string (str l)), by8 c] (fun x => x = .val (.int .i64 (Lib.indexByte l c))) := by
  have h := VPure.ofCalls (f := 199) (args := [.string (str l), .int .u8 c.toNat]) (r := .int .i64 (Lib.indexByte l c)) (fun w => by
    have h1 := sIndexByte_at (str l) c.toNat w
    have e1 : (str l).data.toList = l := by simp [str]
    have e2 : ((c.toNat : Int)).toNat.toUInt8 = c := by rw [Int.toNat_natCast]; simp
    rw [e1, e2] at h1; exact h1)
  exact h
end Go.Proofs.YtijidndhlgbjhaaDoor
