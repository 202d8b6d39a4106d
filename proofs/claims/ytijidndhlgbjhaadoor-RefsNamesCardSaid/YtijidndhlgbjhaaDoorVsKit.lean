/- Contracts of the kit's shelf, as the machine of values has them. -/
import Derived.Test.YtijidndhlgbjhaaDoorShelf
import Derived.Test.YtijidndhlgbjhaaDoorVsByte
namespace Go.Proofs.YtijidndhlgbjhaaDoor
open Go.RowKit
variable [Globs]
set_option linter.unusedSectionVars false
set_option linter.unusedVariables false

/-- A call on plain values that leaves what was there as it was. -/
theorem VPure.ofBelow {f : FuncId} {args : List Value} {r : Value} (h : ∀ (F : Nat → Prop) w, GlobOk F w → Calls Tryd.prog f args.toArray w fun e w' => e = .returned r ∧ Below w.heap.size w w') : VPure Tryd.prog f (args.map .val) (fun x => x = .val r) := by
  intro β F w vs hF hv
  have hvs : vs = args := by
    clear h hF
    induction args generalizing vs with
    | nil => rw [List.map_nil, RepL.nil] at hv; exact hv
    | cons a args ih =>
      rw [List.map_cons] at hv
      obtain ⟨v, us, rfl, h1, h2⟩ := RepL.cons.1 hv
      have := Rep.val.1 (Or.inl h1 : Rep _ _ _ _)
      rw [this, ih us h2]
  subst hvs
  refine (h F w hF.2).mono ?_
  rintro e w' ⟨rfl, hb⟩
  exact ⟨_, _, F, rfl, rfl, Rep.of_val, ⟨hb.os, hb.tape, hb.output, hb.size, hb.block, fun _ h => h, fun _ _ h => h, fun b hb' => Nat.lt_of_lt_of_le (hF.1 b hb') hb.size⟩⟩
theorem below_self {B : Nat} (w : World) : Below B w w := ⟨rfl, rfl, rfl, Nat.le_refl _, fun _ _ => rfl⟩
theorem below_grow (w : World) (k : Nat) (os : Array Obj) : Below w.heap.size w (Sort.grow (w.drewN k) os) := ⟨rfl, rfl, rfl, by simp [Sort.grow, World.drewN], fun i hi => by simp [Sort.grow, World.drewN, Array.getElem?_append_left hi]⟩
theorem strL (l : List UInt8) : (str l).data.toList = l := by simp [str]

theorem hasSuffixV (s p : List UInt8) (hs : s.length ≤ 9223372036854775807) : VPure Tryd.prog 48 [ts s, ts p] (fun x => x = tb (Lib.hasSuffix s p)) := by
  have h := VPure.ofBelow (f := 48) (args := [.string (str s), .string (str p)]) (r := .bool (Lib.hasSuffix s p)) (fun F w _ => by
    have h1 := Tryd.strings_HasSuffix (str s) (str p) w (by simpa [str, ByteArray.size] using hs)
    rw [strL, strL] at h1
    refine h1.mono ?_
    rintro e w' ⟨rfl, rfl⟩
    exact ⟨rfl, below_self _⟩)
  exact h
section
variable [K_internal_strconv_uint64pow10]
theorem pow10_met {F : Nat → Prop} {w : World} (h : GlobOk F w) : Lib.TabIs Tryd.prog w "internal/strconv.uint64pow10" .u64 Lib.pow10Tab := by
  obtain ⟨_, t, fr, h1⟩ := h 8 _ K_internal_strconv_uint64pow10.k
  have h2 : Tryd.prog.globalNamed "internal/strconv.uint64pow10" = some 8 := by kernel_rfl
  have h3 : gv_internal_strconv_uint64pow10.cells.toArray = (Lib.pow10Tab.map fun z => Value.int .u64 z).toArray := by kernel_rfl
  unfold Lib.TabIs World.var?
  rw [h2, Option.bind_some, h1, h3]
theorem itoaV (n : Int) (h0 : -9223372036854775808 ≤ n) (h1 : n ≤ 9223372036854775807) : VPure Tryd.prog 177 [i64 n] (fun x => x = ts (Lib.itoa n)) := by
  have h := VPure.ofBelow (f := 177) (args := [.int .i64 n]) (r := .string (str (Lib.itoa n))) (fun F w hg => by
    refine (Tryd.strconv_Itoa n h0 h1 w (pow10_met hg)).mono ?_
    rintro e w' ⟨rfl, k, os, rfl⟩
    exact ⟨rfl, below_grow _ _ _⟩)
  exact h
end
end Go.Proofs.YtijidndhlgbjhaaDoor
