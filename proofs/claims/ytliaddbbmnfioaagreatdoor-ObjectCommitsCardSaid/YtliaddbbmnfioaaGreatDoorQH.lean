/- ObjectCommitsCard: the law, proved out of contracts of the functions that it reaches (texts merged; names shortened by a program). No condition is laid on it. -/
import Derived.Test.YtliaddbbmnfioaaGreatDoorQG
import Derived.SevenTiedAt
import Derived.Test.YtliaddbbmnfioaaGreatDoorCards
import Derived.Test.YtliaddbbmnfioaaGreatDoorTie
import Derived.Test.YtliaddbbmnfioaaGreatDoorRows
import Derived.Test.YtliaddbbmnfioaaGreatDoorProg
import Derived.WalkKit
import Derived.ProofKit
import Derived.OpenShut
import Derived.ShutString
import Derived.ChangeOld
import Derived.Below
import Derived.SizedLaws
import Derived.ChangeVars
import Derived.LaidLaws
import Derived.LaidHandle
import Derived.Stop.Joined
import Derived.Stop.LaidErr
import Derived.ClosedOfChecked
import Derived.Test.YtliaddbbmnfioaaGreatDoorQE
namespace Go.Proofs.YtliaddbbmnfioaaGreatDoor.objectCommits
open Go.ChangeShapes Go.WideShapes Go.ChangeAt Go.RowKit
set_option linter.unusedVariables false

theorem own : ownKnob Tryz.prog.godebug = none := by kernel_rfl
mutual
def Awe : DataW Unit → List Value
 | .lit (.int k n) => [.int k n]
 | .lit (.string l) => [.string ⟨l.toArray⟩]
 | .agg l => Ay6 l
 | _ => []
def Ay6 : List (DataW Unit) → List Value
 | [] => []
 | d :: l => Awe d ++ Ay6 l
end
abbrev giM (t0 : TypeId) (a0 : Addr) (t1 : TypeId) (a1 : Addr) (m : Int) : Bf := ⟨[(1, Eh), (8, BK), (9, BL), (3, AU), (5, GV.one (.iface t0 (.pointer (some a0)))), (4, GV.one (.iface t1 (.pointer (some a1)))), (2, GV.one (.int .i64 m))], by kernel_rfl⟩
theorem Aes (t0 : TypeId) (a0 : Addr) (t1 : TypeId) (a1 : Addr) (m : Int) : @Dz (giM t0 a0 t1 a1 m) := @Dz.mk (giM t0 a0 t1 a1 m) (by kernel_rfl)
theorem U7 (t0 : TypeId) (a0 : Addr) (t1 : TypeId) (a1 : Addr) (m : Int) : @Fp (giM t0 a0 t1 a1 m) := @Fp.mk (giM t0 a0 t1 a1 m) (by kernel_rfl)
theorem Us (t0 : TypeId) (a0 : Addr) (t1 : TypeId) (a1 : Addr) (m : Int) : @Fh (giM t0 a0 t1 a1 m) := @Fh.mk (giM t0 a0 t1 a1 m) (by kernel_rfl)
theorem O5 (t0 : TypeId) (a0 : Addr) (t1 : TypeId) (a1 : Addr) (m : Int) : @Ak (giM t0 a0 t1 a1 m) := @Ak.mk (giM t0 a0 t1 a1 m) (by kernel_rfl)
theorem Ae8 (t0 : TypeId) (a0 : Addr) (t1 : TypeId) (a1 : Addr) (m : Int) : @AO (giM t0 a0 t1 a1 m) := @AO.mk (giM t0 a0 t1 a1 m) ⟨t0, a0, by kernel_rfl⟩
theorem AdP (t0 : TypeId) (a0 : Addr) (t1 : TypeId) (a1 : Addr) (m : Int) : @Au (giM t0 a0 t1 a1 m) := @Au.mk (giM t0 a0 t1 a1 m) ⟨t1, a1, by kernel_rfl⟩
theorem et : Tryz.prog.globalNamed "errors.errorType" = some 1 := by kernel_rfl
theorem rt : (Tryz.prog.cutTypes.find? (·.1 == "internal/reflectlite.rtype")).map (·.2) = some 175 := by kernel_rfl
theorem ABE : ((List.range Tryz.prog.types.size).filter fun t => Tryz.prog.rowNamed t [101, 114, 114, 111, 114]) = [31] := by kernel_rfl
theorem Aim {W : World} (h : handlesMet Tryz.prog [("errors.errorType", Rows.laid_errors_errorType)] W) : ∃ t fr, W.heap[1]? = some (.cells Eh.cells.toArray t fr) := by
 obtain ⟨name, u, ty, e1, e2, e3, e4, e5⟩ := h _ (List.mem_singleton.2 rfl)
 have en : name = [101, 114, 114, 111, 114] := (Option.some.inj e1).symm
 subst en
 obtain rfl := Option.some.inj (rt.symm.trans e2)
 have hm : ty ∈ (List.range Tryz.prog.types.size).filter fun t => Tryz.prog.rowNamed t [101, 114, 114, 111, 114] := List.mem_filter.2 ⟨List.mem_range.2 e3, e4⟩
 rw [ABE] at hm
 obtain rfl := List.mem_singleton.1 hm
 have hh : typeHandle Tryz.prog 31 = .pointer (some ⟨10, 31, none⟩) := by kernel_rfl
 rw [hh] at e5
 exact Aj1 et e5
def Ti : List (DataW Unit) := [.lit (.int .u8 0), .lit (.int .u8 1), .lit (.int .u8 28), .lit (.int .u8 2), .lit (.int .u8 29), .lit (.int .u8 14), .lit (.int .u8 24), .lit (.int .u8 3), .lit (.int .u8 30), .lit (.int .u8 22), .lit (.int .u8 20), .lit (.int .u8 15), .lit (.int .u8 25), .lit (.int .u8 17), .lit (.int .u8 4), .lit (.int .u8 8), .lit (.int .u8 31), .lit (.int .u8 27), .lit (.int .u8 13), .lit (.int .u8 23), .lit (.int .u8 21), .lit (.int .u8 19), .lit (.int .u8 16), .lit (.int .u8 7), .lit (.int .u8 26), .lit (.int .u8 12), .lit (.int .u8 18), .lit (.int .u8 6), .lit (.int .u8 11), .lit (.int .u8 5), .lit (.int .u8 10), .lit (.int .u8 9)]
theorem Tq {W : World} (h : laidMet Tryz.prog [("math/bits.deBruijn32tab", Rows.laid_math_bits_deBruijn32tab), ("math/bits.deBruijn64tab", Rows.laid_math_bits_deBruijn64tab), ("internal/strconv.uint64pow10", Rows.laid_internal_strconv_uint64pow10), ("unicode/utf8.acceptRanges", Rows.laid_unicode_utf8_acceptRanges), ("strconv.ErrRange", Rows.laid_strconv_ErrRange), ("strconv.ErrSyntax", Rows.laid_strconv_ErrSyntax), ("unicode/utf8.first", Rows.laid_unicode_utf8_first)] W) : ∃ t fr, W.heap[8]? = some (.cells BK.cells.toArray t fr) :=
 AjP (t := (Tryz.prog.globals[8]?).elim 0 (·.type)) (e := match Tryz.prog.underlying ((Tryz.prog.globals[8]?).elim 0 (·.type)) with | some (.array _ e) => e | _ => 0) (n := BK.cells.length) h (List.mem_of_getElem? (i := 0) (show [("math/bits.deBruijn32tab", Rows.laid_math_bits_deBruijn32tab), ("math/bits.deBruijn64tab", Rows.laid_math_bits_deBruijn64tab), ("internal/strconv.uint64pow10", Rows.laid_internal_strconv_uint64pow10), ("unicode/utf8.acceptRanges", Rows.laid_unicode_utf8_acceptRanges), ("strconv.ErrRange", Rows.laid_strconv_ErrRange), ("strconv.ErrSyntax", Rows.laid_strconv_ErrSyntax), ("unicode/utf8.first", Rows.laid_unicode_utf8_first)][0]? = some ("math/bits.deBruijn32tab", DataW.agg Ti) by kernel_rfl)) (by kernel_rfl) (by kernel_rfl) (by kernel_rfl) (by kernel_rfl) (by kernel_rfl) (by kernel_rfl) (by kernel_rfl)
def Td : List (DataW Unit) := [.lit (.int .u8 0), .lit (.int .u8 1), .lit (.int .u8 56), .lit (.int .u8 2), .lit (.int .u8 57), .lit (.int .u8 49), .lit (.int .u8 28), .lit (.int .u8 3), .lit (.int .u8 61), .lit (.int .u8 58), .lit (.int .u8 42), .lit (.int .u8 50), .lit (.int .u8 38), .lit (.int .u8 29), .lit (.int .u8 17), .lit (.int .u8 4), .lit (.int .u8 62), .lit (.int .u8 47), .lit (.int .u8 59), .lit (.int .u8 36), .lit (.int .u8 45), .lit (.int .u8 43), .lit (.int .u8 51), .lit (.int .u8 22), .lit (.int .u8 53), .lit (.int .u8 39), .lit (.int .u8 33), .lit (.int .u8 30), .lit (.int .u8 24), .lit (.int .u8 18), .lit (.int .u8 12), .lit (.int .u8 5), .lit (.int .u8 63), .lit (.int .u8 55), .lit (.int .u8 48), .lit (.int .u8 27), .lit (.int .u8 60), .lit (.int .u8 41), .lit (.int .u8 37), .lit (.int .u8 16), .lit (.int .u8 46), .lit (.int .u8 35), .lit (.int .u8 44), .lit (.int .u8 21), .lit (.int .u8 52), .lit (.int .u8 32), .lit (.int .u8 23), .lit (.int .u8 11), .lit (.int .u8 54), .lit (.int .u8 26), .lit (.int .u8 40), .lit (.int .u8 15), .lit (.int .u8 34), .lit (.int .u8 20), .lit (.int .u8 31), .lit (.int .u8 10), .lit (.int .u8 25), .lit (.int .u8 14), .lit (.int .u8 19), .lit (.int .u8 9), .lit (.int .u8 13), .lit (.int .u8 8), .lit (.int .u8 7), .lit (.int .u8 6)]
theorem Tm {W : World} (h : laidMet Tryz.prog [("math/bits.deBruijn32tab", Rows.laid_math_bits_deBruijn32tab), ("math/bits.deBruijn64tab", Rows.laid_math_bits_deBruijn64tab), ("internal/strconv.uint64pow10", Rows.laid_internal_strconv_uint64pow10), ("unicode/utf8.acceptRanges", Rows.laid_unicode_utf8_acceptRanges), ("strconv.ErrRange", Rows.laid_strconv_ErrRange), ("strconv.ErrSyntax", Rows.laid_strconv_ErrSyntax), ("unicode/utf8.first", Rows.laid_unicode_utf8_first)] W) : ∃ t fr, W.heap[9]? = some (.cells BL.cells.toArray t fr) :=
 AjP (t := (Tryz.prog.globals[9]?).elim 0 (·.type)) (e := match Tryz.prog.underlying ((Tryz.prog.globals[9]?).elim 0 (·.type)) with | some (.array _ e) => e | _ => 0) (n := BL.cells.length) h (List.mem_of_getElem? (i := 1) (show [("math/bits.deBruijn32tab", Rows.laid_math_bits_deBruijn32tab), ("math/bits.deBruijn64tab", Rows.laid_math_bits_deBruijn64tab), ("internal/strconv.uint64pow10", Rows.laid_internal_strconv_uint64pow10), ("unicode/utf8.acceptRanges", Rows.laid_unicode_utf8_acceptRanges), ("strconv.ErrRange", Rows.laid_strconv_ErrRange), ("strconv.ErrSyntax", Rows.laid_strconv_ErrSyntax), ("unicode/utf8.first", Rows.laid_unicode_utf8_first)][1]? = some ("math/bits.deBruijn64tab", DataW.agg Td) by kernel_rfl)) (by kernel_rfl) (by kernel_rfl) (by kernel_rfl) (by kernel_rfl) (by kernel_rfl) (by kernel_rfl) (by kernel_rfl)
def OJ : List (DataW Unit) := [.lit (.int .u64 1), .lit (.int .u64 10), .lit (.int .u64 100), .lit (.int .u64 1000), .lit (.int .u64 10000), .lit (.int .u64 100000), .lit (.int .u64 1000000), .lit (.int .u64 10000000), .lit (.int .u64 100000000), .lit (.int .u64 1000000000), .lit (.int .u64 10000000000), .lit (.int .u64 100000000000), .lit (.int .u64 1000000000000), .lit (.int .u64 10000000000000), .lit (.int .u64 100000000000000), .lit (.int .u64 1000000000000000), .lit (.int .u64 10000000000000000), .lit (.int .u64 100000000000000000), .lit (.int .u64 1000000000000000000), .lit (.int .u64 10000000000000000000)]
theorem Ou {W : World} (h : laidMet Tryz.prog [("math/bits.deBruijn32tab", Rows.laid_math_bits_deBruijn32tab), ("math/bits.deBruijn64tab", Rows.laid_math_bits_deBruijn64tab), ("internal/strconv.uint64pow10", Rows.laid_internal_strconv_uint64pow10), ("unicode/utf8.acceptRanges", Rows.laid_unicode_utf8_acceptRanges), ("strconv.ErrRange", Rows.laid_strconv_ErrRange), ("strconv.ErrSyntax", Rows.laid_strconv_ErrSyntax), ("unicode/utf8.first", Rows.laid_unicode_utf8_first)] W) : ∃ t fr, W.heap[3]? = some (.cells AU.cells.toArray t fr) :=
 AjP (t := (Tryz.prog.globals[3]?).elim 0 (·.type)) (e := match Tryz.prog.underlying ((Tryz.prog.globals[3]?).elim 0 (·.type)) with | some (.array _ e) => e | _ => 0) (n := AU.cells.length) h (List.mem_of_getElem? (i := 2) (show [("math/bits.deBruijn32tab", Rows.laid_math_bits_deBruijn32tab), ("math/bits.deBruijn64tab", Rows.laid_math_bits_deBruijn64tab), ("internal/strconv.uint64pow10", Rows.laid_internal_strconv_uint64pow10), ("unicode/utf8.acceptRanges", Rows.laid_unicode_utf8_acceptRanges), ("strconv.ErrRange", Rows.laid_strconv_ErrRange), ("strconv.ErrSyntax", Rows.laid_strconv_ErrSyntax), ("unicode/utf8.first", Rows.laid_unicode_utf8_first)][2]? = some ("internal/strconv.uint64pow10", DataW.agg OJ) by kernel_rfl)) (by kernel_rfl) (by kernel_rfl) (by kernel_rfl) (by kernel_rfl) (by kernel_rfl) (by kernel_rfl) (by kernel_rfl)
theorem AE2 : "*" ++ "errors.errorString" = "*errors.errorString" := by decide
theorem AvQ (u : TypeId) (h : Tryz.prog.typeName? 3 u = some "*errors.errorString") : u = 252 :=
 typeName_ptr_named (nm := "errors.errorString") (by rw [AE2]; kernel_rfl) (by kernel_rfl) (by decide) u (by rw [AE2]; exact h)
theorem AbK {W : World} (h : laidMet Tryz.prog [("math/bits.deBruijn32tab", Rows.laid_math_bits_deBruijn32tab), ("math/bits.deBruijn64tab", Rows.laid_math_bits_deBruijn64tab), ("internal/strconv.uint64pow10", Rows.laid_internal_strconv_uint64pow10), ("unicode/utf8.acceptRanges", Rows.laid_unicode_utf8_acceptRanges), ("strconv.ErrRange", Rows.laid_strconv_ErrRange), ("strconv.ErrSyntax", Rows.laid_strconv_ErrSyntax), ("unicode/utf8.first", Rows.laid_unicode_utf8_first)] W) : ∃ (a : Addr) (t : TypeId) (fr : Nat × Nat), W.heap[5]? = some (.cells #[.iface 252 (.pointer (some a))] t fr) := by
 have h2 : laidMet Tryz.prog (("strconv.ErrRange", DataW.iface "*errors.errorString" (.ptr (.agg [.lit (.string [118, 97, 108, 117, 101, 32, 111, 117, 116, 32, 111, 102, 32, 114, 97, 110, 103, 101])]))) :: [("strconv.ErrSyntax", Rows.laid_strconv_ErrSyntax), ("unicode/utf8.first", Rows.laid_unicode_utf8_first)]) W := h.tail.tail.tail.tail
 have hg : Tryz.prog.globalNamed "strconv.ErrRange" = some 5 := by kernel_rfl
 obtain ⟨a, s, hv, _⟩ := laid_sentinel h2 hg (show (Tryz.prog.globals[5]?).map (·.type) = some 31 by kernel_rfl) Tryz.underlying31 AvQ Tryz.underlying252 Tryz.underlying254 rfl rfl Tryz.underlying9 (by kernel_rfl) (by kernel_rfl)
 exact ⟨a, Aj1 hg hv⟩
theorem AaA {W : World} (h : laidMet Tryz.prog [("math/bits.deBruijn32tab", Rows.laid_math_bits_deBruijn32tab), ("math/bits.deBruijn64tab", Rows.laid_math_bits_deBruijn64tab), ("internal/strconv.uint64pow10", Rows.laid_internal_strconv_uint64pow10), ("unicode/utf8.acceptRanges", Rows.laid_unicode_utf8_acceptRanges), ("strconv.ErrRange", Rows.laid_strconv_ErrRange), ("strconv.ErrSyntax", Rows.laid_strconv_ErrSyntax), ("unicode/utf8.first", Rows.laid_unicode_utf8_first)] W) : ∃ (a : Addr) (t : TypeId) (fr : Nat × Nat), W.heap[4]? = some (.cells #[.iface 252 (.pointer (some a))] t fr) := by
 have h2 : laidMet Tryz.prog (("strconv.ErrSyntax", DataW.iface "*errors.errorString" (.ptr (.agg [.lit (.string [105, 110, 118, 97, 108, 105, 100, 32, 115, 121, 110, 116, 97, 120])]))) :: [("unicode/utf8.first", Rows.laid_unicode_utf8_first)]) W := h.tail.tail.tail.tail.tail
 have hg : Tryz.prog.globalNamed "strconv.ErrSyntax" = some 4 := by kernel_rfl
 obtain ⟨a, s, hv, _⟩ := laid_sentinel h2 hg (show (Tryz.prog.globals[4]?).map (·.type) = some 31 by kernel_rfl) Tryz.underlying31 AvQ Tryz.underlying252 Tryz.underlying254 rfl rfl Tryz.underlying9 (by kernel_rfl) (by kernel_rfl)
 exact ⟨a, Aj1 hg hv⟩
theorem Akz {W : World} (h : laidMetH Tryz.prog Rows.objectCommitsRow.laid W) (hsh : W.ShapedOpen Tryz.prog) : ∃ t0 a0 t1 a1 m, @IZ (giM t0 a0 t1 a1 m) (fun b => b < W.heap.size) W := by
 have h' : laidMet Tryz.prog [("math/bits.deBruijn32tab", Rows.laid_math_bits_deBruijn32tab), ("math/bits.deBruijn64tab", Rows.laid_math_bits_deBruijn64tab), ("internal/strconv.uint64pow10", Rows.laid_internal_strconv_uint64pow10), ("unicode/utf8.acceptRanges", Rows.laid_unicode_utf8_acceptRanges), ("strconv.ErrRange", Rows.laid_strconv_ErrRange), ("strconv.ErrSyntax", Rows.laid_strconv_ErrSyntax), ("unicode/utf8.first", Rows.laid_unicode_utf8_first)] W ∧ handlesMet Tryz.prog [("errors.errorType", Rows.laid_errors_errorType)] W := h
 obtain ⟨a0, e0⟩ := AbK h'.1
 obtain ⟨a1, e1⟩ := AaA h'.1
 obtain ⟨m, tt, fr, hh⟩ := Aj4 (k := .i64) (zero := #[.int .i64 0]) (g := 2) (t := 3) hsh (of_decide_eq_true (by kernel_rfl)) (by kernel_rfl) rfl (by kernel_rfl) (by kernel_rfl) Tryz.underlying3
 refine ⟨252, a0, 252, a1, m, ?_⟩
 letI := giM 252 a0 252 a1 m
 intro g x hx
 have hm := AoM hx
 have hm' : (g, x) ∈ ([(1, Eh), (8, BK), (9, BL), (3, AU), (5, GV.one (.iface 252 (.pointer (some a0)))), (4, GV.one (.iface 252 (.pointer (some a1)))), (2, GV.one (.int .i64 m))] : List (Nat × GV)) := hm
 simp only [List.mem_cons, List.mem_nil_iff, or_false, Prod.mk.injEq] at hm'
 have key : ∃ t fr, W.heap[g]? = some (.cells x.cells.toArray t fr) := by
  rcases hm' with ⟨rfl, rfl⟩ | ⟨rfl, rfl⟩ | ⟨rfl, rfl⟩ | ⟨rfl, rfl⟩ | ⟨rfl, rfl⟩ | ⟨rfl, rfl⟩ | ⟨rfl, rfl⟩
  ·exact Aim h'.2
  ·exact Tq h'.1
  ·exact Tm h'.1
  ·exact Ou h'.1
  ·exact e0
  ·exact e1
  ·exact ⟨tt, fr, hh⟩
 obtain ⟨t, fr, hk⟩ := key
 exact ⟨(Array.getElem?_eq_some_iff.1 hk).1, t, fr, hk⟩
noncomputable def Alk (os : Os) : World :=
 let w0 := World.holding Tryz.prog os ⟨#[], #[.agg #[.int .u8 0, .int .u8 0, .int .u8 0, .int .u8 0, .int .u8 0, .int .u8 0, .int .u8 0, .int .u8 0, .int .u8 0, .int .u8 0, .int .u8 0, .int .u8 0, .int .u8 0, .int .u8 0, .int .u8 0, .int .u8 0, .int .u8 0, .int .u8 0, .int .u8 0, .int .u8 0, .slice none 0 0, .string ⟨#[]⟩, .string ⟨#[]⟩, .int .i64 0, .int .i64 0, .string ⟨#[]⟩, .string ⟨#[]⟩, .int .i64 0, .int .i64 0, .string ⟨#[]⟩], .slice none 0 0], []⟩
 let w1 := { w0 with heap := w0.heap.modify 1 fun
   | .cells _ t frozen => .cells Eh.cells.toArray t frozen
   | o => o }
 let w2 := { w1 with heap := w1.heap.modify 8 fun
   | .cells _ t frozen => .cells BK.cells.toArray t frozen
   | o => o }
 let w3 := { w2 with heap := w2.heap.modify 9 fun
   | .cells _ t frozen => .cells BL.cells.toArray t frozen
   | o => o }
 let w4 := { w3 with heap := w3.heap.modify 3 fun
   | .cells _ t frozen => .cells AU.cells.toArray t frozen
   | o => o }
 let w5 := { w4 with heap := w4.heap.modify 7 fun
   | .cells _ t frozen => .cells (Awe Rows.laid_unicode_utf8_acceptRanges).toArray t frozen
   | o => o }
 let w6 := { w5 with heap := w5.heap.modify 6 fun
   | .cells _ t frozen => .cells (Awe Rows.laid_unicode_utf8_first).toArray t frozen
   | o => o }
 let w7 := { w6 with heap := (w6.heap.push (.cells #[.string ⟨([118, 97, 108, 117, 101, 32, 111, 117, 116, 32, 111, 102, 32, 114, 97, 110, 103, 101] : List UInt8).toArray⟩] 254 (0, 0))).modify 5 fun
   | .cells _ t frozen => .cells #[.iface 252 (.pointer (some ⟨w6.heap.size, 0, none⟩))] t frozen
   | o => o }
 let w8 := { w7 with heap := (w7.heap.push (.cells #[.string ⟨([105, 110, 118, 97, 108, 105, 100, 32, 115, 121, 110, 116, 97, 120] : List UInt8).toArray⟩] 254 (0, 0))).modify 4 fun
   | .cells _ t frozen => .cells #[.iface 252 (.pointer (some ⟨w7.heap.size, 0, none⟩))] t frozen
   | o => o }
 w8
theorem Akk (os : Os) (args : Array Value) : laidMetH Tryz.prog Rows.objectCommitsRow.laid ((Alk os).forCall (fun _ _ => 0) ⟨#[], args, []⟩).memory :=
 laidMetH_of_parts (laidMet_of_run' 8 (by kernel_rfl) (by kernel_rfl)) (by kernel_rfl)

theorem Axl : laidOutB Tryz.prog = true ∧ mapsRowed Tryz.prog = true :=
 have H := ClosedOfChecked.allSpec_of Tryz.checked.wellFormed (by kernel_rfl : Tryz.checked.prog.types = Tryz.checked.src.types)
 ⟨ClosedOfChecked.laidOutB_of H (by kernel_rfl), ClosedOfChecked.mapsRowed_of H⟩
theorem Jg {a b : Bool} (h : a = true) (k : b = true) : (a && b) = true := by rw [h, k]; rfl
theorem AEu : (Rows.objectCommitsRow.wf (OpenSpec.ofChange Rows.objectCommitsSpec)) = true := by kernel_rfl
theorem ADF : (laidOutB Tryz.prog) = true := Axl.1
theorem ACQ : (mapsRowed Tryz.prog) = true := Axl.2
theorem ACW : (Tryz.f4.params.all (Tryz.prog.readableRec ·)) = true := by kernel_rfl
theorem AD3 : (namedTie Tryz.prog Rows.objectCommitsRow.named Rows.objectCommitsSpec.vars) = true := by kernel_rfl
theorem AD4 : ((Rows.objectCommitsRow.stops == [])) = true := by kernel_rfl
theorem ADA : ((Tryz.prog.stops == [])) = true := by kernel_rfl
theorem ADE : ((Rows.objectCommitsRow.knobs == [])) = true := by kernel_rfl
theorem ACf : ((Tryz.prog.stopKnobs == [])) = true := by kernel_rfl
theorem ADB : ((Rows.objectCommitsRow.inPlace == Tryz.prog.inPlace 4)) = true := by kernel_rfl
theorem ABF : ((Rows.objectCommitsRow.unfollowed == Tryz.prog.unfollowed 4)) = true := by kernel_rfl
theorem AAL : ((Rows.objectCommitsRow.recurses == Tryz.prog.recurses 4)) = true := by kernel_rfl
theorem ABh : ((Rows.objectCommitsRow.named == Tryz.prog.varsNamed 4)) = true := by kernel_rfl
theorem AA4 : ((Rows.objectCommitsRow.maps == (Tryz.f4.params.toList ++ Rows.objectCommitsSpec.plain.varTypes Tryz.prog).any (Tryz.prog.mapsRec ·))) = true := by kernel_rfl
theorem AzZ : ((Rows.objectCommitsRow.ifaces == (Tryz.f4.params.toList ++ Rows.objectCommitsSpec.plain.varTypes Tryz.prog).any (Tryz.prog.ifacesRec ·))) = true := by kernel_rfl
theorem Azo : ((Rows.objectCommitsRow.mapsOut == Tryz.prog.mapsAmong Tryz.f4.resultTypes.toList)) = true := by kernel_rfl
theorem AAH : ((Rows.objectCommitsRow.loops == (Tryz.f4.params.toList ++ Rows.objectCommitsSpec.plain.varTypes Tryz.prog).any (Tryz.prog.loopsFrom ·))) = true := by kernel_rfl
theorem AAA : ((Rows.objectCommitsRow.wideKeys == (Tryz.f4.params.toList ++ Rows.objectCommitsSpec.plain.varTypes Tryz.prog ++ Tryz.f4.resultTypes.toList).any (Tryz.prog.wideKeysFrom ·))) = true := by kernel_rfl
theorem Az7 : (Rows.objectCommitsSpec.vars.all (Tryz.prog.varReadable ·)) = true := by kernel_rfl
theorem AzQ : (Tryz.f4.resultTypes.all (fun t => Tryz.prog.readableRec t && decide (t < Tryz.prog.types.size))) = true := by kernel_rfl
theorem AzE : ((Rows.objectCommitsRow.ifacesOut == Tryz.f4.resultTypes.toList.any (Tryz.prog.ifacesRec ·))) = true := by kernel_rfl
theorem AAs : ((Rows.objectCommitsRow.loopsOut == Tryz.f4.resultTypes.toList.any (Tryz.prog.loopsFrom ·))) = true := by kernel_rfl
theorem AA3 : ((Rows.objectCommitsRow.plainKeys == Tryz.prog.plainKeys)) = true := by kernel_rfl
theorem ABL : (Rows.objectCommitsRow.shortTexts.isNone) = true := by kernel_rfl
theorem AAv : (Tryz.prog.stopsHeard) = true := by kernel_rfl
theorem Azi : (Tryz.prog.mayEnter) = true := by kernel_rfl
theorem ABx : ((Rows.objectCommitsRow.lifted == Tryz.prog.liftsFinal)) = true := by kernel_rfl
theorem AAh : ((Tryz.prog.make == some Rows.objectCommitsRow.make)) = true := by kernel_rfl
theorem AAF : ((Rows.objectCommitsRow.kinds == (if Rows.objectCommitsRow.domain.isEmpty then [] else Tryz.f4.params.toList.map fun t => match Tryz.prog.underlying t with | some (.int k) => some k | _ => none))) = true := by kernel_rfl
theorem ABi : ((Rows.objectCommitsRow.pinned == Rows.objectCommitsRow.pinnedBy)) = true := by kernel_rfl
theorem ABB : ((Rows.objectCommitsRow.veiled == (Tryz.f4.params.toList ++ Rows.objectCommitsSpec.plain.varTypes Tryz.prog ++ Tryz.f4.resultTypes.toList).any (Tryz.prog.veiledRec ·))) = true := by kernel_rfl
theorem AAu : (Rows.objectCommitsRow.veiledFits Tryz.prog Tryz.f4.params.toList (Tryz.f4.params.toList ++ Rows.objectCommitsSpec.plain.varTypes Tryz.prog ++ Tryz.f4.resultTypes.toList)) = true := by kernel_rfl
set_option maxRecDepth 100000 in
theorem Atk : ((Rows.objectCommitsRow.wf (OpenSpec.ofChange Rows.objectCommitsSpec)) && (laidOutB Tryz.prog) && (mapsRowed Tryz.prog) && (Tryz.f4.params.all (Tryz.prog.readableRec ·)) && (namedTie Tryz.prog Rows.objectCommitsRow.named Rows.objectCommitsSpec.vars) && ((Rows.objectCommitsRow.stops == [])) && ((Tryz.prog.stops == [])) && ((Rows.objectCommitsRow.knobs == [])) && ((Tryz.prog.stopKnobs == [])) && ((Rows.objectCommitsRow.inPlace == Tryz.prog.inPlace 4)) && ((Rows.objectCommitsRow.unfollowed == Tryz.prog.unfollowed 4)) && ((Rows.objectCommitsRow.recurses == Tryz.prog.recurses 4)) && ((Rows.objectCommitsRow.named == Tryz.prog.varsNamed 4)) && ((Rows.objectCommitsRow.maps == (Tryz.f4.params.toList ++ Rows.objectCommitsSpec.plain.varTypes Tryz.prog).any (Tryz.prog.mapsRec ·))) && ((Rows.objectCommitsRow.ifaces == (Tryz.f4.params.toList ++ Rows.objectCommitsSpec.plain.varTypes Tryz.prog).any (Tryz.prog.ifacesRec ·))) && ((Rows.objectCommitsRow.mapsOut == Tryz.prog.mapsAmong Tryz.f4.resultTypes.toList)) && ((Rows.objectCommitsRow.loops == (Tryz.f4.params.toList ++ Rows.objectCommitsSpec.plain.varTypes Tryz.prog).any (Tryz.prog.loopsFrom ·))) && ((Rows.objectCommitsRow.wideKeys == (Tryz.f4.params.toList ++ Rows.objectCommitsSpec.plain.varTypes Tryz.prog ++ Tryz.f4.resultTypes.toList).any (Tryz.prog.wideKeysFrom ·))) && (Rows.objectCommitsSpec.vars.all (Tryz.prog.varReadable ·)) && (Tryz.f4.resultTypes.all (fun t => Tryz.prog.readableRec t && decide (t < Tryz.prog.types.size))) && ((Rows.objectCommitsRow.ifacesOut == Tryz.f4.resultTypes.toList.any (Tryz.prog.ifacesRec ·))) && ((Rows.objectCommitsRow.loopsOut == Tryz.f4.resultTypes.toList.any (Tryz.prog.loopsFrom ·))) && ((Rows.objectCommitsRow.plainKeys == Tryz.prog.plainKeys)) && (Rows.objectCommitsRow.shortTexts.isNone) && (Tryz.prog.stopsHeard) && (Tryz.prog.mayEnter) && ((Rows.objectCommitsRow.lifted == Tryz.prog.liftsFinal)) && ((Tryz.prog.make == some Rows.objectCommitsRow.make)) && ((Rows.objectCommitsRow.kinds == (if Rows.objectCommitsRow.domain.isEmpty then [] else Tryz.f4.params.toList.map fun t => match Tryz.prog.underlying t with | some (.int k) => some k | _ => none))) && ((Rows.objectCommitsRow.pinned == Rows.objectCommitsRow.pinnedBy)) && ((Rows.objectCommitsRow.veiled == (Tryz.f4.params.toList ++ Rows.objectCommitsSpec.plain.varTypes Tryz.prog ++ Tryz.f4.resultTypes.toList).any (Tryz.prog.veiledRec ·))) && (Rows.objectCommitsRow.veiledFits Tryz.prog Tryz.f4.params.toList (Tryz.f4.params.toList ++ Rows.objectCommitsSpec.plain.varTypes Tryz.prog ++ Tryz.f4.resultTypes.toList))) = true := (Jg (Jg (Jg (Jg (Jg (Jg (Jg (Jg (Jg (Jg (Jg (Jg (Jg (Jg (Jg (Jg (Jg (Jg (Jg (Jg (Jg (Jg (Jg (Jg (Jg (Jg (Jg (Jg (Jg (Jg (Jg AEu ADF) ACQ) ACW) AD3) AD4) ADA) ADE) ACf) ADB) ABF) AAL) ABh) AA4) AzZ) Azo) AAH) AAA) Az7) AzQ) AzE) AAs) AA3) ABL) AAv) Azi) ABx) AAh) AAF) ABi) ABB) AAu)
set_option maxRecDepth 100000 in
theorem Al7 : joinedFacts Tryz.prog 4 Tryz.f4 Rows.objectCommitsSpec Rows.objectCommitsRow = true := Atk
set_option maxRecDepth 100000 in
theorem lifted (os : Os) (started : os.Started) (H : Type) (enc : TypeId × Value → H) :
  ReturnsInHanded {} Tryz.checked os 4 .any (fun w args => (Rows.objectCommitsSpec.pre enc Tryz.prog Tryz.f4 [] false w args ∧ laidMetH Tryz.prog Rows.objectCommitsRow.laid w) ∧ sizedMet enc Tryz.prog Tryz.f4 (OpenSpec.ofChange Rows.objectCommitsSpec) false w args) (Rows.objectCommitsSpec.post enc Tryz.prog Tryz.f4 false true false false) := by
 refine AfJ (C := Tryz.checked) (X := fun w _ => laidMetH Tryz.prog Rows.objectCommitsRow.laid w) (fun _ _ _ hh h => h.of_heap hh) own started (by kernel_rfl) Tryz.func4
  (ChangeSpec.witness_at (enc := enc) (C := Tryz.checked) (os := os) (X := fun w _ => laidMetH Tryz.prog Rows.objectCommitsRow.laid w) false (Alk os) #[.agg #[.int .u8 0, .int .u8 0, .int .u8 0, .int .u8 0, .int .u8 0, .int .u8 0, .int .u8 0, .int .u8 0, .int .u8 0, .int .u8 0, .int .u8 0, .int .u8 0, .int .u8 0, .int .u8 0, .int .u8 0, .int .u8 0, .int .u8 0, .int .u8 0, .int .u8 0, .int .u8 0, .slice none 0 0, .string ⟨#[]⟩, .string ⟨#[]⟩, .int .i64 0, .int .i64 0, .string ⟨#[]⟩, .string ⟨#[]⟩, .int .i64 0, .int .i64 0, .string ⟨#[]⟩], .slice none 0 0] 8 rfl (by kernel_rfl) (by kernel_rfl) (by kernel_rfl) (by kernel_rfl) (by kernel_rfl) (Akk os _)) ?_
 intro W base args ds gs before hval0 hW hcnd hsz0 hL hsh _
 obtain ⟨t0, a0, t1, a1, m, hG⟩ := Akz hL hsh
 letI : Bf := giM t0 a0 t1 a1 m
 haveI : Dz := Aes t0 a0 t1 a1 m
 haveI : Fp := U7 t0 a0 t1 a1 m
 haveI : Fh := Us t0 a0 t1 a1 m
 haveI : Ak := O5 t0 a0 t1 a1 m
 haveI : AO := Ae8 t0 a0 t1 a1 m
 haveI : Au := AdP t0 a0 t1 a1 m
 haveI : Gt := ⟨m, by kernel_rfl⟩
 have hsz : (DataW.weightsEach Tryz.prog (Tryz.f4.params.toList ++ Rows.objectCommitsSpec.plain.varTypes Tryz.prog) (ds ++ gs)).all (· ≤ reachBytes) = true := hsz0
 have hval : ∀ (j : Nat) t v, Tryz.f4.params[j]? = some t → args[j]? = some v → Value.okWide Tryz.prog W .any base t v := hval0
 have hW' := hW
 obtain ⟨p, q, hA0, hV, rfl, hfz, hnd⟩ := hW
 have hA : DataW.TrodAll enc Tryz.prog W 0 (fun _ => true) true Tryz.f4.params.toList args.toList ds p := hA0
 obtain ⟨rfl, rfl⟩ := trodVars_none hV
 have hsz2 : (DataW.weightsEach Tryz.prog Tryz.f4.params.toList ds).all (· ≤ reachBytes) = true := by
  have e : Tryz.f4.params.toList ++ Rows.objectCommitsSpec.plain.varTypes Tryz.prog = Tryz.f4.params.toList := by simp [ChangeSpec.plain, Rows.objectCommitsSpec]; rfl
  rw [e, List.append_nil] at hsz; exact hsz
 have hA' := hA
 have hps : (Tryz.f4.params.toList.all fun t => Tryz.prog.readableRec t && decide (t < Tryz.prog.types.size)) = true := by kernel_rfl
 have hv2 : ∀ (j : Nat) t v, Tryz.f4.params.toList[j]? = some t → args.toList[j]? = some v → ∃ base, Value.okWide Tryz.prog W .any base t v := fun j t v h1 h2 => ⟨base, hval j t v (by rw [← Array.getElem?_toList]; exact h1) (by rw [← Array.getElem?_toList]; exact h2)⟩
 rw [Tryz.params4] at hA hsz2 hv2
 obtain ⟨dsE, hdsE⟩ : ∃ x, x = ds := ⟨_, rfl⟩
 refine (Azt (f := 4) (Ab5 AoG (Aj7 Tryz.underlying48) (fun _ => rfl) (Ab5 (AkF Tryz.underlying29 Tryz.underlying5 (by kernel_rfl) (by kernel_rfl)) (AkB Tryz.underlying29) (fun _ => rfl) AjO)) (fun a h => Ao6 a.1 a.2.1 h.1 h.2.1) hA hv2 hsz2 (hG)).mono fun e W' ⟨he, bel⟩ => ?_
 subst he
 have hB := AeK Axl.1 bel hps hA'
 have hAo := hA
 obtain ⟨v0, vs0, d0, ds0, p0, q0, ha0, hd0, hp0, h0, r0⟩ := trodAll_cons hAo
 obtain ⟨v1, vs1, d1, ds1, p1, q1, ha1, hd1, hp1, h1, r1⟩ := trodAll_cons r0
 obtain ⟨hz1, hz2, hz3⟩ := trodAll_nil r1
 have hd : ds = [d0, d1] := by rw [hd0, hd1, hz2]
 subst hd
 exact ⟨_, rfl, _, _, _, [], _, [], hW', trodAll_mk1 (shut_bool Tryz.underlying4 _), hB, rfl, bel.frame _, fun h => by cases h⟩

theorem over : Rows.objectCommitsRow.holds Tryz.pinned (OpenSpec.ofChange Rows.objectCommitsSpec) :=
 OpenClaim.holds_of_wide 4 Tryz.f4 rfl rfl rfl rfl rfl rfl rfl ⟨rfl, rfl, rfl, rfl, rfl⟩ rfl rfl rfl rfl rfl (by kernel_rfl) Tryz.func4 Al7
  (of_decide_eq_true (by kernel_rfl)) (by unfold Func.isWrapper; first | (rw [if_pos (by decide +kernel)]; kernel_rfl) | (rw [if_neg (by decide +kernel)]; exact ⟨rfl, rfl⟩))
  (fun os started H enc _ => lifted os started H enc)
theorem stands : (Tryz.f4.params.toList.all fun t => !Tryz.prog.wantsStandIn t) = true := by kernel_rfl
theorem proved : Rows.ObjectCommitsCardSaid :=
 Claim7.holds_tied_plain_at .later [] [.data, .data, .data, .data, .handle, .sentinel, .sentinel, .pinned] true (true, "e6ab31fe43430383ffa178a85459ae3fe14ad8d0c4adf46aafb056f087e0bfb5") true
  over (fun _ h => by cases h) (by kernel_rfl) (fun _ h => by cases h) objectCommits_row_tie rfl ⟨rfl, rfl⟩ (by kernel_rfl) rfl
  (fun f fn hf hfn => by
   obtain rfl : f = 4 := (Option.some.inj ((show Tryz.prog.funcNamed "gitlike/gitlikelaw3.ObjectCommits" = some 4 by kernel_rfl).symm.trans hf)).symm
   obtain rfl : fn = Tryz.f4 := (Option.some.inj (Tryz.func4.symm.trans hfn)).symm
   exact ⟨by kernel_rfl, fun j t ht => by
    rw [← Array.getElem?_toList] at ht
    have := List.all_eq_true.1 stands t (List.mem_of_getElem? ht)
    exact (show Tryz.prog.wantsStandIn t = false by simpa using this)⟩)
  (by kernel_rfl)
#print axioms proved
end Go.Proofs.YtliaddbbmnfioaaGreatDoor.objectCommits

