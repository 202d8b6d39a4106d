/- WireWantsCard: the law, proved out of contracts of the functions that it reaches (texts merged; names shortened by a program). No condition is laid on it. -/
import Derived.Test.YtnikbdnebdmmiaaGreatDoorQF
import Derived.SevenTiedAt
import Derived.Test.YtnikbdnebdmmiaaGreatDoorCards
import Derived.Test.YtnikbdnebdmmiaaGreatDoorTie
import Derived.Test.YtnikbdnebdmmiaaGreatDoorRows
import Derived.Test.YtnikbdnebdmmiaaGreatDoorProg
import Derived.WalkKit
import Derived.ProofKit
import Derived.OpenShut
import Derived.ShutString
import Derived.ChangeOld
import Derived.Below
import Derived.SizedLaws
import Derived.ChangeVars
import Derived.LaidLaws
import Derived.LaidHandle
import Derived.Stop.Joined
import Derived.Stop.LaidErr
import Derived.ClosedOfChecked
import Derived.Test.YtnikbdnebdmmiaaGreatDoorQE
set_option linter.unusedVariables false
namespace Go.Proofs.YtnikbdnebdmmiaaGreatDoor.wireWants
open Go.ChangeShapes Go.WideShapes Go.ChangeAt Go.RowKit
theorem own:ownKnob Tryz.prog.godebug=none:=by kernel_rfl
mutual
def A3J:DataW Unit→List Value
 | .lit (.int k n)=>[.int k n]
 | .lit (.string l)=>[.string ⟨l.toArray⟩]
 | .agg l=>A7R l
 | _=>[]
def A7R:List (DataW Unit)→List Value
 | []=>[]
 | d::l=>A3J d++A7R l
end
abbrev giM (t0:TypeId) (a0:Addr) (t1:TypeId) (a1:Addr):AyZ:=⟨[(0,AzM),(7,Ay2),(8,Ay3),(2,AyQ),(4,GV.one (.iface t0 (.pointer (some a0)))),(3,GV.one (.iface t1 (.pointer (some a1))))],by kernel_rfl⟩
theorem ALH (t0:TypeId) (a0:Addr) (t1:TypeId) (a1:Addr):@AzC (giM t0 a0 t1 a1):=@AzC.mk (giM t0 a0 t1 a1) (by kernel_rfl)
theorem AFv (t0:TypeId) (a0:Addr) (t1:TypeId) (a1:Addr):@Az5 (giM t0 a0 t1 a1):=@Az5.mk (giM t0 a0 t1 a1) (by kernel_rfl)
theorem AFx (t0:TypeId) (a0:Addr) (t1:TypeId) (a1:Addr):@Az4 (giM t0 a0 t1 a1):=@Az4.mk (giM t0 a0 t1 a1) (by kernel_rfl)
theorem ACW (t0:TypeId) (a0:Addr) (t1:TypeId) (a1:Addr):@Azz (giM t0 a0 t1 a1):=@Azz.mk (giM t0 a0 t1 a1) (by kernel_rfl)
theorem ALC (t0:TypeId) (a0:Addr) (t1:TypeId) (a1:Addr):@AyR (giM t0 a0 t1 a1):=@AyR.mk (giM t0 a0 t1 a1) ⟨t0,a0,by kernel_rfl⟩
theorem AKL (t0:TypeId) (a0:Addr) (t1:TypeId) (a1:Addr):@AyO (giM t0 a0 t1 a1):=@AyO.mk (giM t0 a0 t1 a1) ⟨t1,a1,by kernel_rfl⟩
theorem et:Tryz.prog.globalNamed "errors.errorType" = some 0:=by kernel_rfl
theorem rt:(Tryz.prog.cutTypes.find? (·.1 == "internal/reflectlite.rtype")).map (·.2)=some 170:=by kernel_rfl
theorem A7u:((List.range Tryz.prog.types.size).filter fun t=>Tryz.prog.rowNamed t [101,114,114,111,114])=[25]:=by kernel_rfl
theorem AQn {W:World} (h:handlesMet Tryz.prog [("errors.errorType", Rows.laid_errors_errorType)] W):∃ t fr,W.heap[0]?=some (.cells AzM.cells.toArray t fr):=by
 obtain ⟨name,u,ty,e1,e2,e3,e4,e5⟩:=h _ (List.mem_singleton.2 rfl)
 have en:name=[101,114,114,111,114]:=(Option.some.inj e1).symm
 subst en
 obtain rfl:=Option.some.inj (rt.symm.trans e2)
 have hm:ty∈(List.range Tryz.prog.types.size).filter fun t=>Tryz.prog.rowNamed t [101,114,114,111,114]:=List.mem_filter.2 ⟨List.mem_range.2 e3,e4⟩
 rw [A7u] at hm
 obtain rfl:=List.mem_singleton.1 hm
 have hh:typeHandle Tryz.prog 25 = .pointer (some ⟨9,25,none⟩):=by kernel_rfl
 rw [hh] at e5
 exact ASc et e5
def AEP:List (DataW Unit):=[.lit (.int .u8 0),.lit (.int .u8 1),.lit (.int .u8 28),.lit (.int .u8 2),.lit (.int .u8 29),.lit (.int .u8 14),.lit (.int .u8 24),.lit (.int .u8 3),.lit (.int .u8 30),.lit (.int .u8 22),.lit (.int .u8 20),.lit (.int .u8 15),.lit (.int .u8 25),.lit (.int .u8 17),.lit (.int .u8 4),.lit (.int .u8 8),.lit (.int .u8 31),.lit (.int .u8 27),.lit (.int .u8 13),.lit (.int .u8 23),.lit (.int .u8 21),.lit (.int .u8 19),.lit (.int .u8 16),.lit (.int .u8 7),.lit (.int .u8 26),.lit (.int .u8 12),.lit (.int .u8 18),.lit (.int .u8 6),.lit (.int .u8 11),.lit (.int .u8 5),.lit (.int .u8 10),.lit (.int .u8 9)]
theorem AEK {W:World} (h:laidMet Tryz.prog [("math/bits.deBruijn32tab", Rows.laid_math_bits_deBruijn32tab),("math/bits.deBruijn64tab", Rows.laid_math_bits_deBruijn64tab),("internal/strconv.uint64pow10", Rows.laid_internal_strconv_uint64pow10),("unicode/utf8.acceptRanges", Rows.laid_unicode_utf8_acceptRanges),("strconv.ErrRange", Rows.laid_strconv_ErrRange),("strconv.ErrSyntax", Rows.laid_strconv_ErrSyntax),("unicode/utf8.first", Rows.laid_unicode_utf8_first)] W):∃ t fr,W.heap[7]?=some (.cells Ay2.cells.toArray t fr) :=
 ARs (t:=(Tryz.prog.globals[7]?).elim 0 (·.type)) (e:=match Tryz.prog.underlying ((Tryz.prog.globals[7]?).elim 0 (·.type)) with | some (.array _ e)=>e | _=>0) (n:=Ay2.cells.length) h (List.mem_of_getElem? (i:=0) (show [("math/bits.deBruijn32tab", Rows.laid_math_bits_deBruijn32tab),("math/bits.deBruijn64tab", Rows.laid_math_bits_deBruijn64tab),("internal/strconv.uint64pow10", Rows.laid_internal_strconv_uint64pow10),("unicode/utf8.acceptRanges", Rows.laid_unicode_utf8_acceptRanges),("strconv.ErrRange", Rows.laid_strconv_ErrRange),("strconv.ErrSyntax", Rows.laid_strconv_ErrSyntax),("unicode/utf8.first", Rows.laid_unicode_utf8_first)][0]?=some ("math/bits.deBruijn32tab", DataW.agg AEP) by kernel_rfl)) (by kernel_rfl) (by kernel_rfl) (by kernel_rfl) (by kernel_rfl) (by kernel_rfl) (by kernel_rfl) (by kernel_rfl)
def AEO:List (DataW Unit):=[.lit (.int .u8 0),.lit (.int .u8 1),.lit (.int .u8 56),.lit (.int .u8 2),.lit (.int .u8 57),.lit (.int .u8 49),.lit (.int .u8 28),.lit (.int .u8 3),.lit (.int .u8 61),.lit (.int .u8 58),.lit (.int .u8 42),.lit (.int .u8 50),.lit (.int .u8 38),.lit (.int .u8 29),.lit (.int .u8 17),.lit (.int .u8 4),.lit (.int .u8 62),.lit (.int .u8 47),.lit (.int .u8 59),.lit (.int .u8 36),.lit (.int .u8 45),.lit (.int .u8 43),.lit (.int .u8 51),.lit (.int .u8 22),.lit (.int .u8 53),.lit (.int .u8 39),.lit (.int .u8 33),.lit (.int .u8 30),.lit (.int .u8 24),.lit (.int .u8 18),.lit (.int .u8 12),.lit (.int .u8 5),.lit (.int .u8 63),.lit (.int .u8 55),.lit (.int .u8 48),.lit (.int .u8 27),.lit (.int .u8 60),.lit (.int .u8 41),.lit (.int .u8 37),.lit (.int .u8 16),.lit (.int .u8 46),.lit (.int .u8 35),.lit (.int .u8 44),.lit (.int .u8 21),.lit (.int .u8 52),.lit (.int .u8 32),.lit (.int .u8 23),.lit (.int .u8 11),.lit (.int .u8 54),.lit (.int .u8 26),.lit (.int .u8 40),.lit (.int .u8 15),.lit (.int .u8 34),.lit (.int .u8 20),.lit (.int .u8 31),.lit (.int .u8 10),.lit (.int .u8 25),.lit (.int .u8 14),.lit (.int .u8 19),.lit (.int .u8 9),.lit (.int .u8 13),.lit (.int .u8 8),.lit (.int .u8 7),.lit (.int .u8 6)]
theorem AEI {W:World} (h:laidMet Tryz.prog [("math/bits.deBruijn32tab", Rows.laid_math_bits_deBruijn32tab),("math/bits.deBruijn64tab", Rows.laid_math_bits_deBruijn64tab),("internal/strconv.uint64pow10", Rows.laid_internal_strconv_uint64pow10),("unicode/utf8.acceptRanges", Rows.laid_unicode_utf8_acceptRanges),("strconv.ErrRange", Rows.laid_strconv_ErrRange),("strconv.ErrSyntax", Rows.laid_strconv_ErrSyntax),("unicode/utf8.first", Rows.laid_unicode_utf8_first)] W):∃ t fr,W.heap[8]?=some (.cells Ay3.cells.toArray t fr) :=
 ARs (t:=(Tryz.prog.globals[8]?).elim 0 (·.type)) (e:=match Tryz.prog.underlying ((Tryz.prog.globals[8]?).elim 0 (·.type)) with | some (.array _ e)=>e | _=>0) (n:=Ay3.cells.length) h (List.mem_of_getElem? (i:=1) (show [("math/bits.deBruijn32tab", Rows.laid_math_bits_deBruijn32tab),("math/bits.deBruijn64tab", Rows.laid_math_bits_deBruijn64tab),("internal/strconv.uint64pow10", Rows.laid_internal_strconv_uint64pow10),("unicode/utf8.acceptRanges", Rows.laid_unicode_utf8_acceptRanges),("strconv.ErrRange", Rows.laid_strconv_ErrRange),("strconv.ErrSyntax", Rows.laid_strconv_ErrSyntax),("unicode/utf8.first", Rows.laid_unicode_utf8_first)][1]?=some ("math/bits.deBruijn64tab", DataW.agg AEO) by kernel_rfl)) (by kernel_rfl) (by kernel_rfl) (by kernel_rfl) (by kernel_rfl) (by kernel_rfl) (by kernel_rfl) (by kernel_rfl)
def ACn:List (DataW Unit):=[.lit (.int .u64 1),.lit (.int .u64 10),.lit (.int .u64 100),.lit (.int .u64 1000),.lit (.int .u64 10000),.lit (.int .u64 100000),.lit (.int .u64 1000000),.lit (.int .u64 10000000),.lit (.int .u64 100000000),.lit (.int .u64 1000000000),.lit (.int .u64 10000000000),.lit (.int .u64 100000000000),.lit (.int .u64 1000000000000),.lit (.int .u64 10000000000000),.lit (.int .u64 100000000000000),.lit (.int .u64 1000000000000000),.lit (.int .u64 10000000000000000),.lit (.int .u64 100000000000000000),.lit (.int .u64 1000000000000000000),.lit (.int .u64 10000000000000000000)]
theorem ACw {W:World} (h:laidMet Tryz.prog [("math/bits.deBruijn32tab", Rows.laid_math_bits_deBruijn32tab),("math/bits.deBruijn64tab", Rows.laid_math_bits_deBruijn64tab),("internal/strconv.uint64pow10", Rows.laid_internal_strconv_uint64pow10),("unicode/utf8.acceptRanges", Rows.laid_unicode_utf8_acceptRanges),("strconv.ErrRange", Rows.laid_strconv_ErrRange),("strconv.ErrSyntax", Rows.laid_strconv_ErrSyntax),("unicode/utf8.first", Rows.laid_unicode_utf8_first)] W):∃ t fr,W.heap[2]?=some (.cells AyQ.cells.toArray t fr) :=
 ARs (t:=(Tryz.prog.globals[2]?).elim 0 (·.type)) (e:=match Tryz.prog.underlying ((Tryz.prog.globals[2]?).elim 0 (·.type)) with | some (.array _ e)=>e | _=>0) (n:=AyQ.cells.length) h (List.mem_of_getElem? (i:=2) (show [("math/bits.deBruijn32tab", Rows.laid_math_bits_deBruijn32tab),("math/bits.deBruijn64tab", Rows.laid_math_bits_deBruijn64tab),("internal/strconv.uint64pow10", Rows.laid_internal_strconv_uint64pow10),("unicode/utf8.acceptRanges", Rows.laid_unicode_utf8_acceptRanges),("strconv.ErrRange", Rows.laid_strconv_ErrRange),("strconv.ErrSyntax", Rows.laid_strconv_ErrSyntax),("unicode/utf8.first", Rows.laid_unicode_utf8_first)][2]?=some ("internal/strconv.uint64pow10", DataW.agg ACn) by kernel_rfl)) (by kernel_rfl) (by kernel_rfl) (by kernel_rfl) (by kernel_rfl) (by kernel_rfl) (by kernel_rfl) (by kernel_rfl)
theorem BbU : "*" ++ "errors.errorString" = "*errors.errorString" := by decide
theorem A2N (u:TypeId) (h:Tryz.prog.typeName? 3 u=some "*errors.errorString"):u=232 :=
 typeName_ptr_named (nm := "errors.errorString") (by rw [BbU]; kernel_rfl) (by kernel_rfl) (by decide) u (by rw [BbU]; exact h)
theorem AJZ {W:World} (h:laidMet Tryz.prog [("math/bits.deBruijn32tab", Rows.laid_math_bits_deBruijn32tab),("math/bits.deBruijn64tab", Rows.laid_math_bits_deBruijn64tab),("internal/strconv.uint64pow10", Rows.laid_internal_strconv_uint64pow10),("unicode/utf8.acceptRanges", Rows.laid_unicode_utf8_acceptRanges),("strconv.ErrRange", Rows.laid_strconv_ErrRange),("strconv.ErrSyntax", Rows.laid_strconv_ErrSyntax),("unicode/utf8.first", Rows.laid_unicode_utf8_first)] W):∃ (a:Addr) (t:TypeId) (fr:Nat×Nat),W.heap[4]?=some (.cells #[.iface 232 (.pointer (some a))] t fr):=by
 have h2:laidMet Tryz.prog (("strconv.ErrRange", DataW.iface "*errors.errorString" (.ptr (.agg [.lit (.string [118,97,108,117,101,32,111,117,116,32,111,102,32,114,97,110,103,101])])))::[("strconv.ErrSyntax", Rows.laid_strconv_ErrSyntax),("unicode/utf8.first", Rows.laid_unicode_utf8_first)]) W:=h.tail.tail.tail.tail
 have hg:Tryz.prog.globalNamed "strconv.ErrRange" = some 4:=by kernel_rfl
 obtain ⟨a,s,hv,_⟩:=laid_sentinel h2 hg (show (Tryz.prog.globals[4]?).map (·.type)=some 25 by kernel_rfl) Tryz.underlying25 A2N Tryz.underlying232 Tryz.underlying234 rfl rfl Tryz.underlying9 (by kernel_rfl) (by kernel_rfl)
 exact ⟨a,ASc hg hv⟩
theorem AH8 {W:World} (h:laidMet Tryz.prog [("math/bits.deBruijn32tab", Rows.laid_math_bits_deBruijn32tab),("math/bits.deBruijn64tab", Rows.laid_math_bits_deBruijn64tab),("internal/strconv.uint64pow10", Rows.laid_internal_strconv_uint64pow10),("unicode/utf8.acceptRanges", Rows.laid_unicode_utf8_acceptRanges),("strconv.ErrRange", Rows.laid_strconv_ErrRange),("strconv.ErrSyntax", Rows.laid_strconv_ErrSyntax),("unicode/utf8.first", Rows.laid_unicode_utf8_first)] W):∃ (a:Addr) (t:TypeId) (fr:Nat×Nat),W.heap[3]?=some (.cells #[.iface 232 (.pointer (some a))] t fr):=by
 have h2:laidMet Tryz.prog (("strconv.ErrSyntax", DataW.iface "*errors.errorString" (.ptr (.agg [.lit (.string [105,110,118,97,108,105,100,32,115,121,110,116,97,120])])))::[("unicode/utf8.first", Rows.laid_unicode_utf8_first)]) W:=h.tail.tail.tail.tail.tail
 have hg:Tryz.prog.globalNamed "strconv.ErrSyntax" = some 3:=by kernel_rfl
 obtain ⟨a,s,hv,_⟩:=laid_sentinel h2 hg (show (Tryz.prog.globals[3]?).map (·.type)=some 25 by kernel_rfl) Tryz.underlying25 A2N Tryz.underlying232 Tryz.underlying234 rfl rfl Tryz.underlying9 (by kernel_rfl) (by kernel_rfl)
 exact ⟨a,ASc hg hv⟩
theorem ATA {W:World} (h:laidMetH Tryz.prog Rows.wireWantsRow.laid W):∃ t0 a0 t1 a1,@ADv (giM t0 a0 t1 a1) (fun b=>b<W.heap.size) W:=by
 have h':laidMet Tryz.prog [("math/bits.deBruijn32tab", Rows.laid_math_bits_deBruijn32tab),("math/bits.deBruijn64tab", Rows.laid_math_bits_deBruijn64tab),("internal/strconv.uint64pow10", Rows.laid_internal_strconv_uint64pow10),("unicode/utf8.acceptRanges", Rows.laid_unicode_utf8_acceptRanges),("strconv.ErrRange", Rows.laid_strconv_ErrRange),("strconv.ErrSyntax", Rows.laid_strconv_ErrSyntax),("unicode/utf8.first", Rows.laid_unicode_utf8_first)] W∧handlesMet Tryz.prog [("errors.errorType", Rows.laid_errors_errorType)] W:=h
 obtain ⟨a0,e0⟩:=AJZ h'.1
 obtain ⟨a1,e1⟩:=AH8 h'.1
 refine ⟨232,a0,232,a1,?_⟩
 letI:=giM 232 a0 232 a1
 intro g x hx
 have hm:=AWi hx
 have hm':(g,x)∈([(0,AzM),(7,Ay2),(8,Ay3),(2,AyQ),(4,GV.one (.iface 232 (.pointer (some a0)))),(3,GV.one (.iface 232 (.pointer (some a1))))]:List (Nat×GV)):=hm
 simp only [List.mem_cons,List.mem_nil_iff,or_false,Prod.mk.injEq] at hm'
 have key:∃ t fr,W.heap[g]?=some (.cells x.cells.toArray t fr):=by
  rcases hm' with ⟨rfl,rfl⟩ | ⟨rfl,rfl⟩ | ⟨rfl,rfl⟩ | ⟨rfl,rfl⟩ | ⟨rfl,rfl⟩ | ⟨rfl,rfl⟩
  ·exact AQn h'.2
  ·exact AEK h'.1
  ·exact AEI h'.1
  ·exact ACw h'.1
  ·exact e0
  ·exact e1
 obtain ⟨t,fr,hk⟩:=key
 exact ⟨(Array.getElem?_eq_some_iff.1 hk).1,t,fr,hk⟩
noncomputable def ASw (os:Os):World :=
 let w0:=World.holding Tryz.prog os ⟨#[],#[.slice none 0 0,.slice none 0 0,.slice none 0 0],[]⟩
 let w1:={ w0 with heap:=w0.heap.modify 0 fun
   | .cells _ t frozen => .cells AzM.cells.toArray t frozen
   | o=>o }
 let w2:={ w1 with heap:=w1.heap.modify 7 fun
   | .cells _ t frozen => .cells Ay2.cells.toArray t frozen
   | o=>o }
 let w3:={ w2 with heap:=w2.heap.modify 8 fun
   | .cells _ t frozen => .cells Ay3.cells.toArray t frozen
   | o=>o }
 let w4:={ w3 with heap:=w3.heap.modify 2 fun
   | .cells _ t frozen => .cells AyQ.cells.toArray t frozen
   | o=>o }
 let w5:={ w4 with heap:=w4.heap.modify 6 fun
   | .cells _ t frozen => .cells (A3J Rows.laid_unicode_utf8_acceptRanges).toArray t frozen
   | o=>o }
 let w6:={ w5 with heap:=w5.heap.modify 5 fun
   | .cells _ t frozen => .cells (A3J Rows.laid_unicode_utf8_first).toArray t frozen
   | o=>o }
 let w7:={ w6 with heap:=(w6.heap.push (.cells #[.string ⟨([118,97,108,117,101,32,111,117,116,32,111,102,32,114,97,110,103,101]:List UInt8).toArray⟩] 234 (0,0))).modify 4 fun
   | .cells _ t frozen => .cells #[.iface 232 (.pointer (some ⟨w6.heap.size,0,none⟩))] t frozen
   | o=>o }
 let w8:={ w7 with heap:=(w7.heap.push (.cells #[.string ⟨([105,110,118,97,108,105,100,32,115,121,110,116,97,120]:List UInt8).toArray⟩] 234 (0,0))).modify 3 fun
   | .cells _ t frozen => .cells #[.iface 232 (.pointer (some ⟨w7.heap.size,0,none⟩))] t frozen
   | o=>o }
 w8
theorem ASg (os:Os) (args:Array Value):laidMetH Tryz.prog Rows.wireWantsRow.laid ((ASw os).forCall (fun _ _=>0) ⟨#[],args,[]⟩).memory :=
 laidMetH_of_parts (laidMet_of_run' 8 (by kernel_rfl) (by kernel_rfl)) (by kernel_rfl)
theorem A39:laidOutB Tryz.prog=true∧mapsRowed Tryz.prog=true :=
 have H:=ClosedOfChecked.allSpec_of Tryz.checked.wellFormed (by kernel_rfl:Tryz.checked.prog.types=Tryz.checked.src.types)
 ⟨ClosedOfChecked.laidOutB_of H (by kernel_rfl),ClosedOfChecked.mapsRowed_of H⟩
theorem ABl {a b:Bool} (h:a=true) (k:b=true):(a && b)=true:=by rw [h,k]; rfl
theorem A9a:(Rows.wireWantsRow.wf (OpenSpec.ofChange Rows.wireWantsSpec))=true:=by kernel_rfl
theorem A9d:(laidOutB Tryz.prog)=true:=A39.1
theorem A9L:(mapsRowed Tryz.prog)=true:=A39.2
theorem A9C:(Tryz.f3.params.all (Tryz.prog.readableRec ·))=true:=by kernel_rfl
theorem A97:(namedTie Tryz.prog Rows.wireWantsRow.named Rows.wireWantsSpec.vars)=true:=by kernel_rfl
theorem Baj:((Rows.wireWantsRow.stops == []))=true:=by kernel_rfl
theorem A9E:((Tryz.prog.stops == []))=true:=by kernel_rfl
theorem BaU:((Rows.wireWantsRow.knobs == []))=true:=by kernel_rfl
theorem A9I:((Tryz.prog.stopKnobs == []))=true:=by kernel_rfl
theorem BaI:((Rows.wireWantsRow.inPlace == Tryz.prog.inPlace 3))=true:=by kernel_rfl
theorem A55:((Rows.wireWantsRow.unfollowed == Tryz.prog.unfollowed 3))=true:=by kernel_rfl
theorem A6X:((Rows.wireWantsRow.recurses == Tryz.prog.recurses 3))=true:=by kernel_rfl
theorem A73:((Rows.wireWantsRow.named == Tryz.prog.varsNamed 3))=true:=by kernel_rfl
theorem A7m:((Rows.wireWantsRow.maps == (Tryz.f3.params.toList++Rows.wireWantsSpec.plain.varTypes Tryz.prog).any (Tryz.prog.mapsRec ·)))=true:=by kernel_rfl
theorem A6P:((Rows.wireWantsRow.ifaces == (Tryz.f3.params.toList++Rows.wireWantsSpec.plain.varTypes Tryz.prog).any (Tryz.prog.ifacesRec ·)))=true:=by kernel_rfl
theorem A6t:((Rows.wireWantsRow.mapsOut == Tryz.prog.mapsAmong Tryz.f3.resultTypes.toList))=true:=by kernel_rfl
theorem A5J:((Rows.wireWantsRow.loops == (Tryz.f3.params.toList++Rows.wireWantsSpec.plain.varTypes Tryz.prog).any (Tryz.prog.loopsFrom ·)))=true:=by kernel_rfl
theorem A6S:((Rows.wireWantsRow.wideKeys == (Tryz.f3.params.toList++Rows.wireWantsSpec.plain.varTypes Tryz.prog++Tryz.f3.resultTypes.toList).any (Tryz.prog.wideKeysFrom ·)))=true:=by kernel_rfl
theorem A7X:(Rows.wireWantsSpec.vars.all (Tryz.prog.varReadable ·))=true:=by kernel_rfl
theorem A6n:(Tryz.f3.resultTypes.all (fun t=>Tryz.prog.readableRec t && decide (t<Tryz.prog.types.size)))=true:=by kernel_rfl
theorem A7O:((Rows.wireWantsRow.ifacesOut == Tryz.f3.resultTypes.toList.any (Tryz.prog.ifacesRec ·)))=true:=by kernel_rfl
theorem A7H:((Rows.wireWantsRow.loopsOut == Tryz.f3.resultTypes.toList.any (Tryz.prog.loopsFrom ·)))=true:=by kernel_rfl
theorem A6J:((Rows.wireWantsRow.plainKeys == Tryz.prog.plainKeys))=true:=by kernel_rfl
theorem A5W:(Rows.wireWantsRow.shortTexts.isNone)=true:=by kernel_rfl
theorem A53:(Tryz.prog.stopsHeard)=true:=by kernel_rfl
theorem A8n:(Tryz.prog.mayEnter)=true:=by kernel_rfl
theorem A7A:((Rows.wireWantsRow.lifted == Tryz.prog.liftsFinal))=true:=by kernel_rfl
theorem A6f:((Tryz.prog.make == some Rows.wireWantsRow.make))=true:=by kernel_rfl
theorem A7I:((Rows.wireWantsRow.kinds == (if Rows.wireWantsRow.domain.isEmpty then [] else Tryz.f3.params.toList.map fun t=>match Tryz.prog.underlying t with | some (.int k)=>some k | _=>none)))=true:=by kernel_rfl
theorem A6z:((Rows.wireWantsRow.pinned == Rows.wireWantsRow.pinnedBy))=true:=by kernel_rfl
theorem A5K:((Rows.wireWantsRow.veiled == (Tryz.f3.params.toList++Rows.wireWantsSpec.plain.varTypes Tryz.prog++Tryz.f3.resultTypes.toList).any (Tryz.prog.veiledRec ·)))=true:=by kernel_rfl
theorem A6F:(Rows.wireWantsRow.veiledFits Tryz.prog Tryz.f3.params.toList (Tryz.f3.params.toList++Rows.wireWantsSpec.plain.varTypes Tryz.prog++Tryz.f3.resultTypes.toList))=true:=by kernel_rfl
set_option maxRecDepth 100000 in
theorem A0l:((Rows.wireWantsRow.wf (OpenSpec.ofChange Rows.wireWantsSpec)) && (laidOutB Tryz.prog) && (mapsRowed Tryz.prog) && (Tryz.f3.params.all (Tryz.prog.readableRec ·)) && (namedTie Tryz.prog Rows.wireWantsRow.named Rows.wireWantsSpec.vars) && ((Rows.wireWantsRow.stops == [])) && ((Tryz.prog.stops == [])) && ((Rows.wireWantsRow.knobs == [])) && ((Tryz.prog.stopKnobs == [])) && ((Rows.wireWantsRow.inPlace == Tryz.prog.inPlace 3)) && ((Rows.wireWantsRow.unfollowed == Tryz.prog.unfollowed 3)) && ((Rows.wireWantsRow.recurses == Tryz.prog.recurses 3)) && ((Rows.wireWantsRow.named == Tryz.prog.varsNamed 3)) && ((Rows.wireWantsRow.maps == (Tryz.f3.params.toList++Rows.wireWantsSpec.plain.varTypes Tryz.prog).any (Tryz.prog.mapsRec ·))) && ((Rows.wireWantsRow.ifaces == (Tryz.f3.params.toList++Rows.wireWantsSpec.plain.varTypes Tryz.prog).any (Tryz.prog.ifacesRec ·))) && ((Rows.wireWantsRow.mapsOut == Tryz.prog.mapsAmong Tryz.f3.resultTypes.toList)) && ((Rows.wireWantsRow.loops == (Tryz.f3.params.toList++Rows.wireWantsSpec.plain.varTypes Tryz.prog).any (Tryz.prog.loopsFrom ·))) && ((Rows.wireWantsRow.wideKeys == (Tryz.f3.params.toList++Rows.wireWantsSpec.plain.varTypes Tryz.prog++Tryz.f3.resultTypes.toList).any (Tryz.prog.wideKeysFrom ·))) && (Rows.wireWantsSpec.vars.all (Tryz.prog.varReadable ·)) && (Tryz.f3.resultTypes.all (fun t=>Tryz.prog.readableRec t && decide (t<Tryz.prog.types.size))) && ((Rows.wireWantsRow.ifacesOut == Tryz.f3.resultTypes.toList.any (Tryz.prog.ifacesRec ·))) && ((Rows.wireWantsRow.loopsOut == Tryz.f3.resultTypes.toList.any (Tryz.prog.loopsFrom ·))) && ((Rows.wireWantsRow.plainKeys == Tryz.prog.plainKeys)) && (Rows.wireWantsRow.shortTexts.isNone) && (Tryz.prog.stopsHeard) && (Tryz.prog.mayEnter) && ((Rows.wireWantsRow.lifted == Tryz.prog.liftsFinal)) && ((Tryz.prog.make == some Rows.wireWantsRow.make)) && ((Rows.wireWantsRow.kinds == (if Rows.wireWantsRow.domain.isEmpty then [] else Tryz.f3.params.toList.map fun t=>match Tryz.prog.underlying t with | some (.int k)=>some k | _=>none))) && ((Rows.wireWantsRow.pinned == Rows.wireWantsRow.pinnedBy)) && ((Rows.wireWantsRow.veiled == (Tryz.f3.params.toList++Rows.wireWantsSpec.plain.varTypes Tryz.prog++Tryz.f3.resultTypes.toList).any (Tryz.prog.veiledRec ·))) && (Rows.wireWantsRow.veiledFits Tryz.prog Tryz.f3.params.toList (Tryz.f3.params.toList++Rows.wireWantsSpec.plain.varTypes Tryz.prog++Tryz.f3.resultTypes.toList)))=true:=(ABl (ABl (ABl (ABl (ABl (ABl (ABl (ABl (ABl (ABl (ABl (ABl (ABl (ABl (ABl (ABl (ABl (ABl (ABl (ABl (ABl (ABl (ABl (ABl (ABl (ABl (ABl (ABl (ABl (ABl (ABl A9a A9d) A9L) A9C) A97) Baj) A9E) BaU) A9I) BaI) A55) A6X) A73) A7m) A6P) A6t) A5J) A6S) A7X) A6n) A7O) A7H) A6J) A5W) A53) A8n) A7A) A6f) A7I) A6z) A5K) A6F)
set_option maxRecDepth 100000 in
theorem ATW:joinedFacts Tryz.prog 3 Tryz.f3 Rows.wireWantsSpec Rows.wireWantsRow=true:=A0l
set_option maxRecDepth 100000 in
theorem lifted (os:Os) (started:os.Started) (H:Type) (enc:TypeId×Value→H) :
  ReturnsInHanded {} Tryz.checked os 3 .any (fun w args=>(Rows.wireWantsSpec.pre enc Tryz.prog Tryz.f3 [] false w args∧laidMetH Tryz.prog Rows.wireWantsRow.laid w)∧sizedMet enc Tryz.prog Tryz.f3 (OpenSpec.ofChange Rows.wireWantsSpec) false w args) (Rows.wireWantsSpec.post enc Tryz.prog Tryz.f3 false true false false):=by
 refine returnsInHanded_of_change_and (C:=Tryz.checked) (X:=fun w _=>laidMetH Tryz.prog Rows.wireWantsRow.laid w) (fun _ _ _ hh h=>h.of_heap hh) own started (by kernel_rfl) Tryz.func3
  (ChangeSpec.witness_at (enc:=enc) (C:=Tryz.checked) (os:=os) (X:=fun w _=>laidMetH Tryz.prog Rows.wireWantsRow.laid w) false (ASw os) #[.slice none 0 0,.slice none 0 0,.slice none 0 0] 8 rfl (by kernel_rfl) (by kernel_rfl) (by kernel_rfl) (by kernel_rfl) (by kernel_rfl) (ASg os _)) ?_
 intro W base args ds gs before hval0 hW hcnd hsz0 hL _
 obtain ⟨t0,a0,t1,a1,hG⟩:=ATA hL
 letI:AyZ:=giM t0 a0 t1 a1
 haveI:AzC:=ALH t0 a0 t1 a1
 haveI:Az5:=AFv t0 a0 t1 a1
 haveI:Az4:=AFx t0 a0 t1 a1
 haveI:Azz:=ACW t0 a0 t1 a1
 haveI:AyR:=ALC t0 a0 t1 a1
 haveI:AyO:=AKL t0 a0 t1 a1
 have hsz:(DataW.weightsEach Tryz.prog (Tryz.f3.params.toList++Rows.wireWantsSpec.plain.varTypes Tryz.prog) (ds++gs)).all (· ≤ reachBytes)=true:=hsz0
 have hval:∀ (j:Nat) t v,Tryz.f3.params[j]?=some t→args[j]?=some v→Value.okWide Tryz.prog W .any base t v:=hval0
 have hW':=hW
 obtain ⟨p,q,hA0,hV,rfl,hfz,hnd⟩:=hW
 have hA:DataW.TrodAll enc Tryz.prog W 0 (fun _=>true) true Tryz.f3.params.toList args.toList ds p:=hA0
 obtain ⟨rfl,rfl⟩:=trodVars_none hV
 have hsz2:(DataW.weightsEach Tryz.prog Tryz.f3.params.toList ds).all (· ≤ reachBytes)=true:=by
  have e:Tryz.f3.params.toList++Rows.wireWantsSpec.plain.varTypes Tryz.prog=Tryz.f3.params.toList:=by simp [ChangeSpec.plain,Rows.wireWantsSpec]; rfl
  rw [e,List.append_nil] at hsz; exact hsz
 have hA':=hA
 have hps:(Tryz.f3.params.toList.all fun t=>Tryz.prog.readableRec t && decide (t<Tryz.prog.types.size))=true:=by kernel_rfl
 have hv2:∀ (j:Nat) t v,Tryz.f3.params.toList[j]?=some t→args.toList[j]?=some v→∃ base,Value.okWide Tryz.prog W .any base t v:=fun j t v h1 h2=>⟨base,hval j t v (by rw [←Array.getElem?_toList]; exact h1) (by rw [←Array.getElem?_toList]; exact h2)⟩
 rw [Tryz.params3] at hA hsz2 hv2
 obtain ⟨dsE,hdsE⟩:∃ x,x=ds:=⟨_,rfl⟩
 refine (A63 (f:=3) (AFC APh (AJq Tryz.underlying22) (fun _=>rfl) (AFC APh (AJq Tryz.underlying22) (fun _=>rfl) (AFC (ASx Tryz.underlying23 Tryz.underlying5 (by kernel_rfl) (by kernel_rfl)) (AJq Tryz.underlying23) (fun _=>rfl) ARf))) (fun a h=>A1H a.1 a.2.1 a.2.2.1 h.1.2 h.2.1.2 h.1.1 h.2.1.1 h.2.2.1) hA hv2 hsz2 (hG)).mono fun e W' ⟨he,bel⟩ => ?_
 subst he
 have hB:=AMm A39.1 bel hps hA'
 have hAo:=hA
 obtain ⟨v0,vs0,d0,ds0,p0,q0,ha0,hd0,hp0,h0,r0⟩:=trodAll_cons hAo
 obtain ⟨v1,vs1,d1,ds1,p1,q1,ha1,hd1,hp1,h1,r1⟩:=trodAll_cons r0
 obtain ⟨v2,vs2,d2,ds2,p2,q2,ha2,hd2,hp2,h2,r2⟩:=trodAll_cons r1
 obtain ⟨hz1,hz2,hz3⟩:=trodAll_nil r2
 have hd:ds=[d0,d1,d2]:=by rw [hd0,hd1,hd2,hz2]
 subst hd
 exact ⟨_,rfl,_,_,_,[],_,[],hW',trodAll_mk1 (shut_bool Tryz.underlying4 _),hB,rfl,bel.frame _,fun h=>by cases h⟩
theorem over:Rows.wireWantsRow.holds Tryz.pinned (OpenSpec.ofChange Rows.wireWantsSpec) :=
 OpenClaim.holds_of_wide 3 Tryz.f3 rfl rfl rfl rfl rfl rfl rfl ⟨rfl,rfl,rfl,rfl,rfl⟩ rfl rfl rfl rfl rfl (by kernel_rfl) Tryz.func3 ATW
  (of_decide_eq_true (by kernel_rfl)) (by unfold Func.isWrapper; first | (rw [if_pos (by decide +kernel)]; kernel_rfl) | (rw [if_neg (by decide +kernel)]; exact ⟨rfl,rfl⟩))
  (fun os started H enc _=>lifted os started H enc)
theorem stands:(Tryz.f3.params.toList.all fun t => !Tryz.prog.wantsStandIn t)=true:=by kernel_rfl
theorem proved:Rows.WireWantsCardSaid :=
 Claim7.holds_tied_plain_at .later [] [.data,.data,.data,.data,.handle,.sentinel,.sentinel,.pinned] true (true, "1cd508813a7ab9180b6b047ca0db803201969f14fae151725a7c55c995d18096") true
  over (fun _ h=>by cases h) (by kernel_rfl) (fun _ h=>by cases h) wireWants_row_tie rfl ⟨rfl,rfl⟩ (by kernel_rfl) rfl
  (fun f fn hf hfn=>by
   obtain rfl:f=3:=(Option.some.inj ((show Tryz.prog.funcNamed "gitlike/gitlikelaw12.WireWants" = some 3 by kernel_rfl).symm.trans hf)).symm
   obtain rfl:fn=Tryz.f3:=(Option.some.inj (Tryz.func3.symm.trans hfn)).symm
   exact ⟨by kernel_rfl,fun j t ht=>by
    rw [←Array.getElem?_toList] at ht
    have:=List.all_eq_true.1 stands t (List.mem_of_getElem? ht)
    exact (show Tryz.prog.wantsStandIn t=false by simpa using this)⟩)
  (by kernel_rfl)
#print axioms proved
end Go.Proofs.YtnikbdnebdmmiaaGreatDoor.wireWants
