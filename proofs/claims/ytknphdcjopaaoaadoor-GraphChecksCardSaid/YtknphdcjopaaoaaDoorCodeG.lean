/- The code of some functions, as the machine of values has it: printed by vm.py out of the program; each is the program's own (t_..: by the kernel). -/
import Derived.Test.YtknphdcjopaaoaaDoorVmO
import Derived.Test.YtknphdcjopaaoaaDoorProg
import Derived.KernelRfl
namespace Go.Proofs.YtknphdcjopaaoaaDoor
set_option linter.unusedVariables false
set_option linter.defProp false
set_option maxRecDepth 100000

/-! gitlike/graph.Check -/
def c_graph_Check : VCode := .seq (.ops [⟨some 2, .p (.mov (.c .nilIface)), none⟩] [0])
  (.seq (.ops [⟨some 6, .p (.mov (.t 0)), none⟩,
    ⟨some 7, .s (.call 28 [.t 6]), none⟩,
    ⟨some 5, .p (.mov (.t 7)), none⟩,
    ⟨some 8, .p (.ext 0 (.t 5)), none⟩,
    ⟨some 9, .p (.ext 1 (.t 5)), none⟩,
    ⟨some 3, .p (.mov (.t 8)), none⟩,
    ⟨some 4, .p (.mov (.t 9)), none⟩] [4])
  (.seq (.ops [⟨some 10, .p (.mov (.t 4)), none⟩,
    ⟨some 2, .p (.mov (.t 10)), none⟩] [2])
  (.ret)))
def r_graph_Check : List VR := [.tmp 2]
theorem t_graph_Check : Tryd.f9.body.bind (trC Tryd.prog Tryd.f9.ntmps) = some (er c_graph_Check) := by kernel_rfl
theorem w_graph_Check : trR Tryd.prog Tryd.f9.results.toList = some r_graph_Check := by kernel_rfl
theorem u_graph_Check_e {P : Program} {Q : VEx → Env → List Ob → Prop} {e : Env} {H : List Ob} : vwp P c_graph_Check Q e H = vwp P (.seq (.ops [⟨some 2, .p (.mov (.c .nilIface)), none⟩] [0])
  (.seq (.ops [⟨some 6, .p (.mov (.t 0)), none⟩,
    ⟨some 7, .s (.call 28 [.t 6]), none⟩,
    ⟨some 5, .p (.mov (.t 7)), none⟩,
    ⟨some 8, .p (.ext 0 (.t 5)), none⟩,
    ⟨some 9, .p (.ext 1 (.t 5)), none⟩,
    ⟨some 3, .p (.mov (.t 8)), none⟩,
    ⟨some 4, .p (.mov (.t 9)), none⟩] [4])
  (.seq (.ops [⟨some 10, .p (.mov (.t 4)), none⟩,
    ⟨some 2, .p (.mov (.t 10)), none⟩] [2])
  (.ret)))) Q e H := by_refl rfl
theorem u_graph_Check_r {K : TV → Prop} {e : Env} {H : List Ob} : res r_graph_Check e H K = res [.tmp 2] e H K := by_refl rfl
def u_graph_Check := (And.intro @u_graph_Check_e @u_graph_Check_r)
theorem go_graph_Check {args : List TV} {H : List Ob} {R : TV → List Ob → Prop} (hn : args.length ≤ 11) (h : vwp Tryd.prog c_graph_Check (atEnd r_graph_Check R) (argsE 0 args) H) : VCalls Tryd.prog 9 args H R := vcalls_of Tryd.func9 t_graph_Check w_graph_Check hn h

/-! gitlike/graph.grow -/
def c_graph_grow_k1 : VCode := .seq (.block 1 (.seq (.ops [⟨some 30, .p (.idxA 22 (.t 26) (.t 28)), none⟩,
    ⟨some 31, .p (.load true 22 (.t 30)), none⟩,
    ⟨some 6, .s (.alloc (.agg [.arr 20 1 [.val (.int .u8 ((0 : Nat) : Int)), .val (.int .u8 ((0 : Nat) : Int)), .val (.int .u8 ((0 : Nat) : Int)), .val (.int .u8 ((0 : Nat) : Int)), .val (.int .u8 ((0 : Nat) : Int)), .val (.int .u8 ((0 : Nat) : Int)), .val (.int .u8 ((0 : Nat) : Int)), .val (.int .u8 ((0 : Nat) : Int)), .val (.int .u8 ((0 : Nat) : Int)), .val (.int .u8 ((0 : Nat) : Int)), .val (.int .u8 ((0 : Nat) : Int)), .val (.int .u8 ((0 : Nat) : Int)), .val (.int .u8 ((0 : Nat) : Int)), .val (.int .u8 ((0 : Nat) : Int)), .val (.int .u8 ((0 : Nat) : Int)), .val (.int .u8 ((0 : Nat) : Int)), .val (.int .u8 ((0 : Nat) : Int)), .val (.int .u8 ((0 : Nat) : Int)), .val (.int .u8 ((0 : Nat) : Int)), .val (.int .u8 ((0 : Nat) : Int))], .val (.slice none 0 0), .val (.int .i64 ((0 : Nat) : Int))])), none⟩,
    ⟨none, .s (.store 22 (.t 6) (.t 31)), none⟩] [0, 4, 6, 26, 27, 28])
  (.draw 7 [⟨some 32, .p (.mov (.t 4)), none⟩,
    ⟨some 33, .p (.nilc (.t 32)), none⟩,
    ⟨some 34, .p (.fieldA 0 0 (.t 33)), none⟩,
    ⟨some 35, .p (.load false 1 (.t 34)), none⟩,
    ⟨some 36, .p (.fieldA 0 0 (.t 6)), none⟩,
    ⟨some 37, .p (.load true 20 (.t 36)), none⟩,
    ⟨some 38, .p (.load true 22 (.t 6)), none⟩,
    ⟨none, .s (.mupd (.arr 20) (.t 35) (.t 37) (.t 38)), none⟩] [0, 4, 26, 27, 28])))
  (.ops [⟨some 39, .p (.bin 3 .add (.t 28) (.c (.int .i64 ((1 : Nat) : Int)))), none⟩,
    ⟨some 28, .p (.mov (.t 39)), none⟩] [0, 4, 26, 27, 28])
def c_graph_grow_k2 : VCode := .seq (.cond (.t 29)
  (.skip)
  (.exit 0))
  c_graph_grow_k1
def c_graph_grow_L3 : VCode := .seq (.ops [⟨some 29, .p (.bin 3 .lss (.t 28) (.t 27)), none⟩] [0, 4, 26, 27, 28, 29])
  c_graph_grow_k2
def c_graph_grow_k4 : VCode := .block 0 (.loop [0, 4, 26, 27, 28] c_graph_grow_L3)
def c_graph_grow_k5 : VCode := .seq (.seq (.draw 9 [⟨some 69, .p (.mov (.t 4)), none⟩,
    ⟨some 70, .p (.nilc (.t 69)), none⟩,
    ⟨some 71, .p (.fieldA 0 0 (.t 70)), none⟩,
    ⟨some 72, .p (.load false 1 (.t 71)), none⟩,
    ⟨some 73, .p (.load true 20 (.t 11)), none⟩,
    ⟨some 74, .p (.gen (.look (.arr 20) (.agg [.arr 20 1 [.val (.int .u8 ((0 : Nat) : Int)), .val (.int .u8 ((0 : Nat) : Int)), .val (.int .u8 ((0 : Nat) : Int)), .val (.int .u8 ((0 : Nat) : Int)), .val (.int .u8 ((0 : Nat) : Int)), .val (.int .u8 ((0 : Nat) : Int)), .val (.int .u8 ((0 : Nat) : Int)), .val (.int .u8 ((0 : Nat) : Int)), .val (.int .u8 ((0 : Nat) : Int)), .val (.int .u8 ((0 : Nat) : Int)), .val (.int .u8 ((0 : Nat) : Int)), .val (.int .u8 ((0 : Nat) : Int)), .val (.int .u8 ((0 : Nat) : Int)), .val (.int .u8 ((0 : Nat) : Int)), .val (.int .u8 ((0 : Nat) : Int)), .val (.int .u8 ((0 : Nat) : Int)), .val (.int .u8 ((0 : Nat) : Int)), .val (.int .u8 ((0 : Nat) : Int)), .val (.int .u8 ((0 : Nat) : Int)), .val (.int .u8 ((0 : Nat) : Int))], .val (.slice none 0 0), .val (.int .i64 ((0 : Nat) : Int))]) true) [.t 72, .t 73]), none⟩,
    ⟨some 68, .p (.mov (.t 74)), none⟩,
    ⟨some 75, .p (.ext 0 (.t 68)), none⟩,
    ⟨some 76, .p (.ext 1 (.t 68)), none⟩,
    ⟨some 12, .s (.alloc (.agg [.arr 20 1 [.val (.int .u8 ((0 : Nat) : Int)), .val (.int .u8 ((0 : Nat) : Int)), .val (.int .u8 ((0 : Nat) : Int)), .val (.int .u8 ((0 : Nat) : Int)), .val (.int .u8 ((0 : Nat) : Int)), .val (.int .u8 ((0 : Nat) : Int)), .val (.int .u8 ((0 : Nat) : Int)), .val (.int .u8 ((0 : Nat) : Int)), .val (.int .u8 ((0 : Nat) : Int)), .val (.int .u8 ((0 : Nat) : Int)), .val (.int .u8 ((0 : Nat) : Int)), .val (.int .u8 ((0 : Nat) : Int)), .val (.int .u8 ((0 : Nat) : Int)), .val (.int .u8 ((0 : Nat) : Int)), .val (.int .u8 ((0 : Nat) : Int)), .val (.int .u8 ((0 : Nat) : Int)), .val (.int .u8 ((0 : Nat) : Int)), .val (.int .u8 ((0 : Nat) : Int)), .val (.int .u8 ((0 : Nat) : Int)), .val (.int .u8 ((0 : Nat) : Int))], .val (.slice none 0 0), .val (.int .i64 ((0 : Nat) : Int))])), none⟩,
    ⟨none, .s (.store 22 (.t 12) (.t 75)), none⟩,
    ⟨some 13, .p (.mov (.t 76)), none⟩] [0, 4, 7, 11, 13, 55, 56, 57, 62, 63, 64])
  (.seq (.ops [⟨some 77, .p (.mov (.t 13)), none⟩,
    ⟨some 78, .p (.un .not (.t 77)), none⟩] [0, 4, 7, 11, 55, 56, 57, 62, 63, 64, 78])
  (.cond (.t 78)
  (.seq (.ops [⟨some 79, .p (.iface 30 (.c (.int .i64 ((80 : Nat) : Int)))), none⟩,
      ⟨some 2, .p (.mov (.c (.pointer none))), none⟩,
      ⟨some 3, .p (.mov (.t 79)), none⟩] [2, 3])
    (.ret))
  (.skip))))
  (.draw 4 [⟨some 80, .p (.mov (.t 7)), none⟩,
    ⟨some 81, .p (.load true 20 (.t 11)), none⟩,
    ⟨some 82, .p (.gen (.look (.arr 20) (.val (.int .i64 ((0 : Nat) : Int))) false) [.t 80, .t 81]), none⟩,
    ⟨some 83, .p (.bin 3 .add (.t 82) (.c (.int .i64 ((1 : Nat) : Int)))), none⟩,
    ⟨some 84, .s (.ment (.arr 20) (.val (.int .i64 ((0 : Nat) : Int))) (.t 80) (.t 81)), none⟩,
    ⟨some 85, .p (.ext 1 (.t 84)), none⟩,
    ⟨none, .s (.mest (.t 80) (.t 85) (.t 83)), none⟩] [0, 4, 7, 55, 56, 57, 62, 63, 64])
def c_graph_grow_k6 : VCode := .seq (.block 5 (.seq (.ops [⟨some 66, .p (.idxA 20 (.t 62) (.t 64)), none⟩,
    ⟨some 67, .p (.load true 20 (.t 66)), none⟩,
    ⟨some 11, .s (.alloc (.arr 20 1 [.val (.int .u8 ((0 : Nat) : Int)), .val (.int .u8 ((0 : Nat) : Int)), .val (.int .u8 ((0 : Nat) : Int)), .val (.int .u8 ((0 : Nat) : Int)), .val (.int .u8 ((0 : Nat) : Int)), .val (.int .u8 ((0 : Nat) : Int)), .val (.int .u8 ((0 : Nat) : Int)), .val (.int .u8 ((0 : Nat) : Int)), .val (.int .u8 ((0 : Nat) : Int)), .val (.int .u8 ((0 : Nat) : Int)), .val (.int .u8 ((0 : Nat) : Int)), .val (.int .u8 ((0 : Nat) : Int)), .val (.int .u8 ((0 : Nat) : Int)), .val (.int .u8 ((0 : Nat) : Int)), .val (.int .u8 ((0 : Nat) : Int)), .val (.int .u8 ((0 : Nat) : Int)), .val (.int .u8 ((0 : Nat) : Int)), .val (.int .u8 ((0 : Nat) : Int)), .val (.int .u8 ((0 : Nat) : Int)), .val (.int .u8 ((0 : Nat) : Int))])), none⟩,
    ⟨none, .s (.store 20 (.t 11) (.t 67)), none⟩] [0, 4, 7, 11, 55, 56, 57, 62, 63, 64])
  c_graph_grow_k5))
  (.ops [⟨some 86, .p (.bin 3 .add (.t 64) (.c (.int .i64 ((1 : Nat) : Int)))), none⟩,
    ⟨some 64, .p (.mov (.t 86)), none⟩] [0, 4, 7, 55, 56, 57, 62, 63, 64])
def c_graph_grow_k7 : VCode := .seq (.cond (.t 65)
  (.skip)
  (.exit 4))
  c_graph_grow_k6
def c_graph_grow_L8 : VCode := .seq (.ops [⟨some 65, .p (.bin 3 .lss (.t 64) (.t 63)), none⟩] [0, 4, 7, 55, 56, 57, 62, 63, 64, 65])
  c_graph_grow_k7
def c_graph_grow_k9 : VCode := .block 4 (.loop [0, 4, 7, 55, 56, 57, 62, 63, 64] c_graph_grow_L8)
def c_graph_grow_k10 : VCode := .seq (.ops [⟨some 61, .p (.fieldA 1 20 (.t 9)), none⟩,
    ⟨some 62, .p (.load false 1 (.t 61)), none⟩,
    ⟨some 63, .p (.lenV (.t 62)), none⟩,
    ⟨some 64, .p (.mov (.c (.int .i64 ((0 : Nat) : Int)))), none⟩] [0, 4, 7, 55, 56, 57, 62, 63, 64])
  c_graph_grow_k9
def c_graph_grow_k11 : VCode := .ops [⟨some 87, .p (.bin 3 .add (.t 57) (.c (.int .i64 ((1 : Nat) : Int)))), none⟩,
    ⟨some 57, .p (.mov (.t 87)), none⟩] [0, 4, 7, 55, 56, 57]
def c_graph_grow_k12 : VCode := .seq (.block 3 (.seq (.ops [⟨some 59, .p (.idxA 22 (.t 55) (.t 57)), none⟩,
    ⟨some 60, .p (.load true 22 (.t 59)), none⟩,
    ⟨some 9, .s (.alloc (.agg [.arr 20 1 [.val (.int .u8 ((0 : Nat) : Int)), .val (.int .u8 ((0 : Nat) : Int)), .val (.int .u8 ((0 : Nat) : Int)), .val (.int .u8 ((0 : Nat) : Int)), .val (.int .u8 ((0 : Nat) : Int)), .val (.int .u8 ((0 : Nat) : Int)), .val (.int .u8 ((0 : Nat) : Int)), .val (.int .u8 ((0 : Nat) : Int)), .val (.int .u8 ((0 : Nat) : Int)), .val (.int .u8 ((0 : Nat) : Int)), .val (.int .u8 ((0 : Nat) : Int)), .val (.int .u8 ((0 : Nat) : Int)), .val (.int .u8 ((0 : Nat) : Int)), .val (.int .u8 ((0 : Nat) : Int)), .val (.int .u8 ((0 : Nat) : Int)), .val (.int .u8 ((0 : Nat) : Int)), .val (.int .u8 ((0 : Nat) : Int)), .val (.int .u8 ((0 : Nat) : Int)), .val (.int .u8 ((0 : Nat) : Int)), .val (.int .u8 ((0 : Nat) : Int))], .val (.slice none 0 0), .val (.int .i64 ((0 : Nat) : Int))])), none⟩,
    ⟨none, .s (.store 22 (.t 9) (.t 60)), none⟩] [0, 4, 7, 9, 55, 56, 57])
  c_graph_grow_k10))
  c_graph_grow_k11
def c_graph_grow_k13 : VCode := .seq (.cond (.t 58)
  (.skip)
  (.exit 2))
  c_graph_grow_k12
def c_graph_grow_L14 : VCode := .seq (.ops [⟨some 58, .p (.bin 3 .lss (.t 57) (.t 56)), none⟩] [0, 4, 7, 55, 56, 57, 58])
  c_graph_grow_k13
def c_graph_grow_k15 : VCode := .block 2 (.loop [0, 4, 7, 55, 56, 57] c_graph_grow_L14)
def c_graph_grow_k16 : VCode := .seq (.block 7 (.seq (.ops [⟨some 92, .p (.idxA 22 (.t 88) (.t 90)), none⟩,
    ⟨some 93, .p (.load true 22 (.t 92)), none⟩,
    ⟨some 16, .s (.alloc (.agg [.arr 20 1 [.val (.int .u8 ((0 : Nat) : Int)), .val (.int .u8 ((0 : Nat) : Int)), .val (.int .u8 ((0 : Nat) : Int)), .val (.int .u8 ((0 : Nat) : Int)), .val (.int .u8 ((0 : Nat) : Int)), .val (.int .u8 ((0 : Nat) : Int)), .val (.int .u8 ((0 : Nat) : Int)), .val (.int .u8 ((0 : Nat) : Int)), .val (.int .u8 ((0 : Nat) : Int)), .val (.int .u8 ((0 : Nat) : Int)), .val (.int .u8 ((0 : Nat) : Int)), .val (.int .u8 ((0 : Nat) : Int)), .val (.int .u8 ((0 : Nat) : Int)), .val (.int .u8 ((0 : Nat) : Int)), .val (.int .u8 ((0 : Nat) : Int)), .val (.int .u8 ((0 : Nat) : Int)), .val (.int .u8 ((0 : Nat) : Int)), .val (.int .u8 ((0 : Nat) : Int)), .val (.int .u8 ((0 : Nat) : Int)), .val (.int .u8 ((0 : Nat) : Int))], .val (.slice none 0 0), .val (.int .i64 ((0 : Nat) : Int))])), none⟩,
    ⟨none, .s (.store 22 (.t 16) (.t 93)), none⟩] [0, 4, 7, 14, 16, 88, 89, 90])
  (.seq (.ops [⟨some 94, .p (.mov (.t 7)), none⟩,
    ⟨some 95, .p (.fieldA 0 0 (.t 16)), none⟩,
    ⟨some 96, .p (.load true 20 (.t 95)), none⟩,
    ⟨some 97, .p (.gen (.look (.arr 20) (.val (.int .i64 ((0 : Nat) : Int))) false) [.t 94, .t 96]), none⟩,
    ⟨some 98, .p (.bin 3 .eql (.t 97) (.c (.int .i64 ((0 : Nat) : Int)))), none⟩] [0, 4, 7, 14, 16, 88, 89, 90, 98])
  (.cond (.t 98)
  (.ops [⟨some 99, .p (.mov (.t 14)), none⟩,
      ⟨some 100, .p (.fieldA 0 0 (.t 16)), none⟩,
      ⟨some 101, .p (.load true 20 (.t 100)), none⟩,
      ⟨some 102, .s (.bslice 20 1 (.arr 20 1 [.val (.int .u8 ((0 : Nat) : Int)), .val (.int .u8 ((0 : Nat) : Int)), .val (.int .u8 ((0 : Nat) : Int)), .val (.int .u8 ((0 : Nat) : Int)), .val (.int .u8 ((0 : Nat) : Int)), .val (.int .u8 ((0 : Nat) : Int)), .val (.int .u8 ((0 : Nat) : Int)), .val (.int .u8 ((0 : Nat) : Int)), .val (.int .u8 ((0 : Nat) : Int)), .val (.int .u8 ((0 : Nat) : Int)), .val (.int .u8 ((0 : Nat) : Int)), .val (.int .u8 ((0 : Nat) : Int)), .val (.int .u8 ((0 : Nat) : Int)), .val (.int .u8 ((0 : Nat) : Int)), .val (.int .u8 ((0 : Nat) : Int)), .val (.int .u8 ((0 : Nat) : Int)), .val (.int .u8 ((0 : Nat) : Int)), .val (.int .u8 ((0 : Nat) : Int)), .val (.int .u8 ((0 : Nat) : Int)), .val (.int .u8 ((0 : Nat) : Int))]) [⟨0, .t 101⟩]), none⟩,
      ⟨some 103, .s (.app 20 20 (.t 99) (.t 102)), none⟩,
      ⟨some 14, .p (.mov (.t 103)), none⟩] [0, 4, 7, 14, 88, 89, 90])
  (.skip)))))
  (.ops [⟨some 104, .p (.bin 3 .add (.t 90) (.c (.int .i64 ((1 : Nat) : Int)))), none⟩,
    ⟨some 90, .p (.mov (.t 104)), none⟩] [0, 4, 7, 14, 88, 89, 90])
def c_graph_grow_k17 : VCode := .seq (.cond (.t 91)
  (.skip)
  (.exit 6))
  c_graph_grow_k16
def c_graph_grow_L18 : VCode := .seq (.ops [⟨some 91, .p (.bin 3 .lss (.t 90) (.t 89)), none⟩] [0, 4, 7, 14, 88, 89, 90, 91])
  c_graph_grow_k17
def c_graph_grow_k19 : VCode := .block 6 (.own 14 20 (.loop [0, 4, 7, 14, 88, 89, 90] c_graph_grow_L18))
def c_graph_grow_k20 : VCode := .seq (.draw 4 [⟨some 127, .p (.mov (.t 7)), none⟩,
    ⟨some 128, .p (.load true 20 (.t 20)), none⟩,
    ⟨some 129, .p (.gen (.look (.arr 20) (.val (.int .i64 ((0 : Nat) : Int))) false) [.t 127, .t 128]), none⟩,
    ⟨some 130, .p (.bin 3 .sub (.t 129) (.c (.int .i64 ((1 : Nat) : Int)))), none⟩,
    ⟨some 131, .s (.ment (.arr 20) (.val (.int .i64 ((0 : Nat) : Int))) (.t 127) (.t 128)), none⟩,
    ⟨some 132, .p (.ext 1 (.t 131)), none⟩,
    ⟨none, .s (.mest (.t 127) (.t 132) (.t 130)), none⟩] [0, 4, 7, 14, 17, 20, 121, 122, 123])
  (.seq (.ops [⟨some 133, .p (.mov (.t 7)), none⟩,
    ⟨some 134, .p (.load true 20 (.t 20)), none⟩,
    ⟨some 135, .p (.gen (.look (.arr 20) (.val (.int .i64 ((0 : Nat) : Int))) false) [.t 133, .t 134]), none⟩,
    ⟨some 136, .p (.bin 3 .eql (.t 135) (.c (.int .i64 ((0 : Nat) : Int)))), none⟩] [0, 4, 7, 14, 17, 20, 121, 122, 123, 136])
  (.cond (.t 136)
  (.ops [⟨some 137, .p (.mov (.t 14)), none⟩,
      ⟨some 138, .p (.load true 20 (.t 20)), none⟩,
      ⟨some 139, .s (.bslice 20 1 (.arr 20 1 [.val (.int .u8 ((0 : Nat) : Int)), .val (.int .u8 ((0 : Nat) : Int)), .val (.int .u8 ((0 : Nat) : Int)), .val (.int .u8 ((0 : Nat) : Int)), .val (.int .u8 ((0 : Nat) : Int)), .val (.int .u8 ((0 : Nat) : Int)), .val (.int .u8 ((0 : Nat) : Int)), .val (.int .u8 ((0 : Nat) : Int)), .val (.int .u8 ((0 : Nat) : Int)), .val (.int .u8 ((0 : Nat) : Int)), .val (.int .u8 ((0 : Nat) : Int)), .val (.int .u8 ((0 : Nat) : Int)), .val (.int .u8 ((0 : Nat) : Int)), .val (.int .u8 ((0 : Nat) : Int)), .val (.int .u8 ((0 : Nat) : Int)), .val (.int .u8 ((0 : Nat) : Int)), .val (.int .u8 ((0 : Nat) : Int)), .val (.int .u8 ((0 : Nat) : Int)), .val (.int .u8 ((0 : Nat) : Int)), .val (.int .u8 ((0 : Nat) : Int))]) [⟨0, .t 138⟩]), none⟩,
      ⟨some 140, .s (.app 20 20 (.t 137) (.t 139)), none⟩,
      ⟨some 14, .p (.mov (.t 140)), none⟩] [0, 4, 7, 14, 17, 121, 122, 123])
  (.skip)))
def c_graph_grow_k21 : VCode := .seq (.block 11 (.seq (.ops [⟨some 125, .p (.idxA 20 (.t 121) (.t 123)), none⟩,
    ⟨some 126, .p (.load true 20 (.t 125)), none⟩,
    ⟨some 20, .s (.alloc (.arr 20 1 [.val (.int .u8 ((0 : Nat) : Int)), .val (.int .u8 ((0 : Nat) : Int)), .val (.int .u8 ((0 : Nat) : Int)), .val (.int .u8 ((0 : Nat) : Int)), .val (.int .u8 ((0 : Nat) : Int)), .val (.int .u8 ((0 : Nat) : Int)), .val (.int .u8 ((0 : Nat) : Int)), .val (.int .u8 ((0 : Nat) : Int)), .val (.int .u8 ((0 : Nat) : Int)), .val (.int .u8 ((0 : Nat) : Int)), .val (.int .u8 ((0 : Nat) : Int)), .val (.int .u8 ((0 : Nat) : Int)), .val (.int .u8 ((0 : Nat) : Int)), .val (.int .u8 ((0 : Nat) : Int)), .val (.int .u8 ((0 : Nat) : Int)), .val (.int .u8 ((0 : Nat) : Int)), .val (.int .u8 ((0 : Nat) : Int)), .val (.int .u8 ((0 : Nat) : Int)), .val (.int .u8 ((0 : Nat) : Int)), .val (.int .u8 ((0 : Nat) : Int))])), none⟩,
    ⟨none, .s (.store 20 (.t 20) (.t 126)), none⟩] [0, 4, 7, 14, 17, 20, 121, 122, 123])
  c_graph_grow_k20))
  (.ops [⟨some 141, .p (.bin 3 .add (.t 123) (.c (.int .i64 ((1 : Nat) : Int)))), none⟩,
    ⟨some 123, .p (.mov (.t 141)), none⟩] [0, 4, 7, 14, 17, 121, 122, 123])
def c_graph_grow_k22 : VCode := .seq (.cond (.t 124)
  (.skip)
  (.exit 10))
  c_graph_grow_k21
def c_graph_grow_L23 : VCode := .seq (.ops [⟨some 124, .p (.bin 3 .lss (.t 123) (.t 122)), none⟩] [0, 4, 7, 14, 17, 121, 122, 123, 124])
  c_graph_grow_k22
def c_graph_grow_k24 : VCode := .block 10 (.own 14 20 (.loop [0, 4, 7, 14, 17, 121, 122, 123] c_graph_grow_L23))
def c_graph_grow_k25 : VCode := .seq (.ops [⟨some 120, .p (.fieldA 1 20 (.t 18)), none⟩,
    ⟨some 121, .p (.load false 1 (.t 120)), none⟩,
    ⟨some 122, .p (.lenV (.t 121)), none⟩,
    ⟨some 123, .p (.mov (.c (.int .i64 ((0 : Nat) : Int)))), none⟩] [0, 4, 7, 14, 17, 121, 122, 123])
  c_graph_grow_k24
def c_graph_grow_k26 : VCode := .seq (.ops [⟨some 118, .p (.mov (.t 14)), none⟩,
    ⟨some 119, .p (.slV 20 (.t 118) (some (.c (.int .i64 ((1 : Nat) : Int)))) none), none⟩,
    ⟨some 14, .p (.mov (.t 119)), none⟩] [0, 4, 7, 14, 17, 18])
  c_graph_grow_k25
def c_graph_grow_k27 : VCode := .ops [⟨some 108, .p (.mov (.t 17)), none⟩,
    ⟨some 109, .p (.bin 3 .add (.t 108) (.c (.int .i64 ((1 : Nat) : Int)))), none⟩,
    ⟨some 17, .p (.mov (.t 109)), none⟩] [0, 4, 7, 14, 17]
def c_graph_grow_k28 : VCode := .seq (.block 9 (.seq (.draw 7 [⟨some 110, .p (.mov (.t 4)), none⟩,
    ⟨some 111, .p (.nilc (.t 110)), none⟩,
    ⟨some 112, .p (.fieldA 0 0 (.t 111)), none⟩,
    ⟨some 113, .p (.load false 1 (.t 112)), none⟩,
    ⟨some 114, .p (.mov (.t 14)), none⟩,
    ⟨some 115, .p (.idxA 20 (.t 114) (.c (.int .i64 ((0 : Nat) : Int)))), none⟩,
    ⟨some 116, .p (.load true 20 (.t 115)), none⟩,
    ⟨some 117, .p (.gen (.look (.arr 20) (.agg [.arr 20 1 [.val (.int .u8 ((0 : Nat) : Int)), .val (.int .u8 ((0 : Nat) : Int)), .val (.int .u8 ((0 : Nat) : Int)), .val (.int .u8 ((0 : Nat) : Int)), .val (.int .u8 ((0 : Nat) : Int)), .val (.int .u8 ((0 : Nat) : Int)), .val (.int .u8 ((0 : Nat) : Int)), .val (.int .u8 ((0 : Nat) : Int)), .val (.int .u8 ((0 : Nat) : Int)), .val (.int .u8 ((0 : Nat) : Int)), .val (.int .u8 ((0 : Nat) : Int)), .val (.int .u8 ((0 : Nat) : Int)), .val (.int .u8 ((0 : Nat) : Int)), .val (.int .u8 ((0 : Nat) : Int)), .val (.int .u8 ((0 : Nat) : Int)), .val (.int .u8 ((0 : Nat) : Int)), .val (.int .u8 ((0 : Nat) : Int)), .val (.int .u8 ((0 : Nat) : Int)), .val (.int .u8 ((0 : Nat) : Int)), .val (.int .u8 ((0 : Nat) : Int))], .val (.slice none 0 0), .val (.int .i64 ((0 : Nat) : Int))]) false) [.t 113, .t 116]), none⟩,
    ⟨some 18, .s (.alloc (.agg [.arr 20 1 [.val (.int .u8 ((0 : Nat) : Int)), .val (.int .u8 ((0 : Nat) : Int)), .val (.int .u8 ((0 : Nat) : Int)), .val (.int .u8 ((0 : Nat) : Int)), .val (.int .u8 ((0 : Nat) : Int)), .val (.int .u8 ((0 : Nat) : Int)), .val (.int .u8 ((0 : Nat) : Int)), .val (.int .u8 ((0 : Nat) : Int)), .val (.int .u8 ((0 : Nat) : Int)), .val (.int .u8 ((0 : Nat) : Int)), .val (.int .u8 ((0 : Nat) : Int)), .val (.int .u8 ((0 : Nat) : Int)), .val (.int .u8 ((0 : Nat) : Int)), .val (.int .u8 ((0 : Nat) : Int)), .val (.int .u8 ((0 : Nat) : Int)), .val (.int .u8 ((0 : Nat) : Int)), .val (.int .u8 ((0 : Nat) : Int)), .val (.int .u8 ((0 : Nat) : Int)), .val (.int .u8 ((0 : Nat) : Int)), .val (.int .u8 ((0 : Nat) : Int))], .val (.slice none 0 0), .val (.int .i64 ((0 : Nat) : Int))])), none⟩,
    ⟨none, .s (.store 22 (.t 18) (.t 117)), none⟩] [0, 4, 7, 14, 17, 18])
  c_graph_grow_k26))
  c_graph_grow_k27
def c_graph_grow_L29 : VCode := .seq (.seq (.ops [⟨some 105, .p (.mov (.t 14)), none⟩,
    ⟨some 106, .p (.lenV (.t 105)), none⟩,
    ⟨some 107, .p (.bin 3 .gtr (.t 106) (.c (.int .i64 ((0 : Nat) : Int)))), none⟩] [0, 4, 7, 14, 17, 107])
  (.cond (.t 107)
  (.skip)
  (.exit 8)))
  c_graph_grow_k28
def c_graph_grow_k30 : VCode := .seq (.seq (.ops [⟨some 142, .p (.mov (.t 17)), none⟩,
    ⟨some 143, .p (.mov (.t 0)), none⟩,
    ⟨some 144, .p (.lenV (.t 143)), none⟩,
    ⟨some 145, .p (.bin 3 .lss (.t 142) (.t 144)), none⟩] [4, 145])
  (.cond (.t 145)
  (.seq (.ops [⟨some 146, .p (.iface 30 (.c (.int .i64 ((80 : Nat) : Int)))), none⟩,
      ⟨some 2, .p (.mov (.c (.pointer none))), none⟩,
      ⟨some 3, .p (.mov (.t 146)), none⟩] [2, 3])
    (.ret))
  (.skip)))
  (.seq (.ops [⟨some 147, .p (.mov (.t 4)), none⟩,
    ⟨some 2, .p (.mov (.t 147)), none⟩,
    ⟨some 3, .p (.mov (.c .nilIface)), none⟩] [2, 3])
  (.ret))
def c_graph_grow_k31 : VCode := .seq (.block 8 (.own 14 20 (.loop [0, 4, 7, 14, 17] c_graph_grow_L29)))
  c_graph_grow_k30
def c_graph_grow_k32 : VCode := .seq (.ops [⟨some 17, .p (.mov (.c (.int .i64 ((0 : Nat) : Int)))), none⟩] [0, 4, 7, 14, 17])
  c_graph_grow_k31
def c_graph_grow_k33 : VCode := .seq (.seq (.ops [⟨some 88, .p (.mov (.t 0)), none⟩,
    ⟨some 89, .p (.lenV (.t 88)), none⟩,
    ⟨some 90, .p (.mov (.c (.int .i64 ((0 : Nat) : Int)))), none⟩] [0, 4, 7, 14, 88, 89, 90])
  c_graph_grow_k19)
  c_graph_grow_k32
def c_graph_grow_k34 : VCode := .seq (.ops [⟨some 14, .p (.mov (.c (.slice none 0 0))), none⟩] [0, 4, 7, 14])
  c_graph_grow_k33
def c_graph_grow_k35 : VCode := .seq (.seq (.ops [⟨some 55, .p (.mov (.t 0)), none⟩,
    ⟨some 56, .p (.lenV (.t 55)), none⟩,
    ⟨some 57, .p (.mov (.c (.int .i64 ((0 : Nat) : Int)))), none⟩] [0, 4, 7, 55, 56, 57])
  c_graph_grow_k15)
  c_graph_grow_k34
def c_graph_grow_k36 : VCode := .seq (.ops [⟨some 54, .s (.mkm (.arr 20) none), none⟩,
    ⟨some 7, .p (.mov (.t 54)), none⟩] [0, 4, 7])
  c_graph_grow_k35
def c_graph_grow_k37 : VCode := .seq (.seq (.ops [⟨some 40, .p (.mov (.t 0)), none⟩,
    ⟨some 41, .p (.lenV (.t 40)), none⟩,
    ⟨some 42, .p (.bin 3 .gtr (.t 41) (.c (.int .i64 ((2000 : Nat) : Int)))), none⟩,
    ⟨some 43, .p (.mov (.t 42)), none⟩,
    ⟨some 44, .p (.mov (.t 4)), some ⟨43, false⟩⟩,
    ⟨some 45, .p (.nilc (.t 44)), some ⟨43, false⟩⟩,
    ⟨some 46, .p (.fieldA 0 0 (.t 45)), some ⟨43, false⟩⟩,
    ⟨some 47, .p (.load false 1 (.t 46)), some ⟨43, false⟩⟩,
    ⟨some 48, .p (.gen .lenM [.t 47]), some ⟨43, false⟩⟩,
    ⟨some 49, .p (.mov (.t 0)), some ⟨43, false⟩⟩,
    ⟨some 50, .p (.lenV (.t 49)), some ⟨43, false⟩⟩,
    ⟨some 51, .p (.bin 3 .lss (.t 48) (.t 50)), some ⟨43, false⟩⟩,
    ⟨some 52, .p (.pick (.t 43) (.c (.bool true)) (.t 51)), none⟩] [0, 4, 52])
  (.cond (.t 52)
  (.seq (.ops [⟨some 53, .p (.iface 30 (.c (.int .i64 ((80 : Nat) : Int)))), none⟩,
      ⟨some 2, .p (.mov (.c (.pointer none))), none⟩,
      ⟨some 3, .p (.mov (.t 53)), none⟩] [2, 3])
    (.ret))
  (.skip)))
  c_graph_grow_k36
def c_graph_grow_k38 : VCode := .seq (.seq (.ops [⟨some 26, .p (.mov (.t 0)), none⟩,
    ⟨some 27, .p (.lenV (.t 26)), none⟩,
    ⟨some 28, .p (.mov (.c (.int .i64 ((0 : Nat) : Int)))), none⟩] [0, 4, 26, 27, 28])
  c_graph_grow_k4)
  c_graph_grow_k37
def c_graph_grow_k39 : VCode := .seq (.ops [⟨some 21, .p (.mov (.t 0)), none⟩,
    ⟨some 22, .p (.lenV (.t 21)), none⟩,
    ⟨some 23, .s (.mkm (.arr 20) (some (.t 22))), none⟩,
    ⟨some 24, .p (.build [.val (.map none), .val (.map none)] [1, 1] [⟨0, .t 23⟩]), none⟩,
    ⟨some 25, .s (.box (.t 24)), none⟩,
    ⟨some 4, .p (.mov (.t 25)), none⟩] [0, 4])
  c_graph_grow_k38
def c_graph_grow : VCode := .seq (.ops [⟨some 2, .p (.mov (.c (.pointer none))), none⟩,
    ⟨some 3, .p (.mov (.c .nilIface)), none⟩] [0])
  c_graph_grow_k39
def r_graph_grow : List VR := [.tmp 2, .tmp 3]
theorem t_graph_grow : Tryd.f28.body.bind (trC Tryd.prog Tryd.f28.ntmps) = some (er c_graph_grow) := by kernel_rfl
theorem w_graph_grow : trR Tryd.prog Tryd.f28.results.toList = some r_graph_grow := by kernel_rfl
theorem u_graph_grow_k1_e {P : Program} {Q : VEx → Env → List Ob → Prop} {e : Env} {H : List Ob} : vwp P c_graph_grow_k1 Q e H = vwp P (.seq (.block 1 (.seq (.ops [⟨some 30, .p (.idxA 22 (.t 26) (.t 28)), none⟩,
    ⟨some 31, .p (.load true 22 (.t 30)), none⟩,
    ⟨some 6, .s (.alloc (.agg [.arr 20 1 [.val (.int .u8 ((0 : Nat) : Int)), .val (.int .u8 ((0 : Nat) : Int)), .val (.int .u8 ((0 : Nat) : Int)), .val (.int .u8 ((0 : Nat) : Int)), .val (.int .u8 ((0 : Nat) : Int)), .val (.int .u8 ((0 : Nat) : Int)), .val (.int .u8 ((0 : Nat) : Int)), .val (.int .u8 ((0 : Nat) : Int)), .val (.int .u8 ((0 : Nat) : Int)), .val (.int .u8 ((0 : Nat) : Int)), .val (.int .u8 ((0 : Nat) : Int)), .val (.int .u8 ((0 : Nat) : Int)), .val (.int .u8 ((0 : Nat) : Int)), .val (.int .u8 ((0 : Nat) : Int)), .val (.int .u8 ((0 : Nat) : Int)), .val (.int .u8 ((0 : Nat) : Int)), .val (.int .u8 ((0 : Nat) : Int)), .val (.int .u8 ((0 : Nat) : Int)), .val (.int .u8 ((0 : Nat) : Int)), .val (.int .u8 ((0 : Nat) : Int))], .val (.slice none 0 0), .val (.int .i64 ((0 : Nat) : Int))])), none⟩,
    ⟨none, .s (.store 22 (.t 6) (.t 31)), none⟩] [0, 4, 6, 26, 27, 28])
  (.draw 7 [⟨some 32, .p (.mov (.t 4)), none⟩,
    ⟨some 33, .p (.nilc (.t 32)), none⟩,
    ⟨some 34, .p (.fieldA 0 0 (.t 33)), none⟩,
    ⟨some 35, .p (.load false 1 (.t 34)), none⟩,
    ⟨some 36, .p (.fieldA 0 0 (.t 6)), none⟩,
    ⟨some 37, .p (.load true 20 (.t 36)), none⟩,
    ⟨some 38, .p (.load true 22 (.t 6)), none⟩,
    ⟨none, .s (.mupd (.arr 20) (.t 35) (.t 37) (.t 38)), none⟩] [0, 4, 26, 27, 28])))
  (.ops [⟨some 39, .p (.bin 3 .add (.t 28) (.c (.int .i64 ((1 : Nat) : Int)))), none⟩,
    ⟨some 28, .p (.mov (.t 39)), none⟩] [0, 4, 26, 27, 28])) Q e H := by_refl rfl
theorem u_graph_grow_k2_e {P : Program} {Q : VEx → Env → List Ob → Prop} {e : Env} {H : List Ob} : vwp P c_graph_grow_k2 Q e H = vwp P (.seq (.cond (.t 29)
  (.skip)
  (.exit 0))
  c_graph_grow_k1) Q e H := by_refl rfl
theorem u_graph_grow_L3_e {P : Program} {Q : VEx → Env → List Ob → Prop} {e : Env} {H : List Ob} : vwp P c_graph_grow_L3 Q e H = vwp P (.seq (.ops [⟨some 29, .p (.bin 3 .lss (.t 28) (.t 27)), none⟩] [0, 4, 26, 27, 28, 29])
  c_graph_grow_k2) Q e H := by_refl rfl
theorem u_graph_grow_k4_e {P : Program} {Q : VEx → Env → List Ob → Prop} {e : Env} {H : List Ob} : vwp P c_graph_grow_k4 Q e H = vwp P (.block 0 (.loop [0, 4, 26, 27, 28] c_graph_grow_L3)) Q e H := by_refl rfl
theorem u_graph_grow_k5_e {P : Program} {Q : VEx → Env → List Ob → Prop} {e : Env} {H : List Ob} : vwp P c_graph_grow_k5 Q e H = vwp P (.seq (.seq (.draw 9 [⟨some 69, .p (.mov (.t 4)), none⟩,
    ⟨some 70, .p (.nilc (.t 69)), none⟩,
    ⟨some 71, .p (.fieldA 0 0 (.t 70)), none⟩,
    ⟨some 72, .p (.load false 1 (.t 71)), none⟩,
    ⟨some 73, .p (.load true 20 (.t 11)), none⟩,
    ⟨some 74, .p (.gen (.look (.arr 20) (.agg [.arr 20 1 [.val (.int .u8 ((0 : Nat) : Int)), .val (.int .u8 ((0 : Nat) : Int)), .val (.int .u8 ((0 : Nat) : Int)), .val (.int .u8 ((0 : Nat) : Int)), .val (.int .u8 ((0 : Nat) : Int)), .val (.int .u8 ((0 : Nat) : Int)), .val (.int .u8 ((0 : Nat) : Int)), .val (.int .u8 ((0 : Nat) : Int)), .val (.int .u8 ((0 : Nat) : Int)), .val (.int .u8 ((0 : Nat) : Int)), .val (.int .u8 ((0 : Nat) : Int)), .val (.int .u8 ((0 : Nat) : Int)), .val (.int .u8 ((0 : Nat) : Int)), .val (.int .u8 ((0 : Nat) : Int)), .val (.int .u8 ((0 : Nat) : Int)), .val (.int .u8 ((0 : Nat) : Int)), .val (.int .u8 ((0 : Nat) : Int)), .val (.int .u8 ((0 : Nat) : Int)), .val (.int .u8 ((0 : Nat) : Int)), .val (.int .u8 ((0 : Nat) : Int))], .val (.slice none 0 0), .val (.int .i64 ((0 : Nat) : Int))]) true) [.t 72, .t 73]), none⟩,
    ⟨some 68, .p (.mov (.t 74)), none⟩,
    ⟨some 75, .p (.ext 0 (.t 68)), none⟩,
    ⟨some 76, .p (.ext 1 (.t 68)), none⟩,
    ⟨some 12, .s (.alloc (.agg [.arr 20 1 [.val (.int .u8 ((0 : Nat) : Int)), .val (.int .u8 ((0 : Nat) : Int)), .val (.int .u8 ((0 : Nat) : Int)), .val (.int .u8 ((0 : Nat) : Int)), .val (.int .u8 ((0 : Nat) : Int)), .val (.int .u8 ((0 : Nat) : Int)), .val (.int .u8 ((0 : Nat) : Int)), .val (.int .u8 ((0 : Nat) : Int)), .val (.int .u8 ((0 : Nat) : Int)), .val (.int .u8 ((0 : Nat) : Int)), .val (.int .u8 ((0 : Nat) : Int)), .val (.int .u8 ((0 : Nat) : Int)), .val (.int .u8 ((0 : Nat) : Int)), .val (.int .u8 ((0 : Nat) : Int)), .val (.int .u8 ((0 : Nat) : Int)), .val (.int .u8 ((0 : Nat) : Int)), .val (.int .u8 ((0 : Nat) : Int)), .val (.int .u8 ((0 : Nat) : Int)), .val (.int .u8 ((0 : Nat) : Int)), .val (.int .u8 ((0 : Nat) : Int))], .val (.slice none 0 0), .val (.int .i64 ((0 : Nat) : Int))])), none⟩,
    ⟨none, .s (.store 22 (.t 12) (.t 75)), none⟩,
    ⟨some 13, .p (.mov (.t 76)), none⟩] [0, 4, 7, 11, 13, 55, 56, 57, 62, 63, 64])
  (.seq (.ops [⟨some 77, .p (.mov (.t 13)), none⟩,
    ⟨some 78, .p (.un .not (.t 77)), none⟩] [0, 4, 7, 11, 55, 56, 57, 62, 63, 64, 78])
  (.cond (.t 78)
  (.seq (.ops [⟨some 79, .p (.iface 30 (.c (.int .i64 ((80 : Nat) : Int)))), none⟩,
      ⟨some 2, .p (.mov (.c (.pointer none))), none⟩,
      ⟨some 3, .p (.mov (.t 79)), none⟩] [2, 3])
    (.ret))
  (.skip))))
  (.draw 4 [⟨some 80, .p (.mov (.t 7)), none⟩,
    ⟨some 81, .p (.load true 20 (.t 11)), none⟩,
    ⟨some 82, .p (.gen (.look (.arr 20) (.val (.int .i64 ((0 : Nat) : Int))) false) [.t 80, .t 81]), none⟩,
    ⟨some 83, .p (.bin 3 .add (.t 82) (.c (.int .i64 ((1 : Nat) : Int)))), none⟩,
    ⟨some 84, .s (.ment (.arr 20) (.val (.int .i64 ((0 : Nat) : Int))) (.t 80) (.t 81)), none⟩,
    ⟨some 85, .p (.ext 1 (.t 84)), none⟩,
    ⟨none, .s (.mest (.t 80) (.t 85) (.t 83)), none⟩] [0, 4, 7, 55, 56, 57, 62, 63, 64])) Q e H := by_refl rfl
theorem u_graph_grow_k6_e {P : Program} {Q : VEx → Env → List Ob → Prop} {e : Env} {H : List Ob} : vwp P c_graph_grow_k6 Q e H = vwp P (.seq (.block 5 (.seq (.ops [⟨some 66, .p (.idxA 20 (.t 62) (.t 64)), none⟩,
    ⟨some 67, .p (.load true 20 (.t 66)), none⟩,
    ⟨some 11, .s (.alloc (.arr 20 1 [.val (.int .u8 ((0 : Nat) : Int)), .val (.int .u8 ((0 : Nat) : Int)), .val (.int .u8 ((0 : Nat) : Int)), .val (.int .u8 ((0 : Nat) : Int)), .val (.int .u8 ((0 : Nat) : Int)), .val (.int .u8 ((0 : Nat) : Int)), .val (.int .u8 ((0 : Nat) : Int)), .val (.int .u8 ((0 : Nat) : Int)), .val (.int .u8 ((0 : Nat) : Int)), .val (.int .u8 ((0 : Nat) : Int)), .val (.int .u8 ((0 : Nat) : Int)), .val (.int .u8 ((0 : Nat) : Int)), .val (.int .u8 ((0 : Nat) : Int)), .val (.int .u8 ((0 : Nat) : Int)), .val (.int .u8 ((0 : Nat) : Int)), .val (.int .u8 ((0 : Nat) : Int)), .val (.int .u8 ((0 : Nat) : Int)), .val (.int .u8 ((0 : Nat) : Int)), .val (.int .u8 ((0 : Nat) : Int)), .val (.int .u8 ((0 : Nat) : Int))])), none⟩,
    ⟨none, .s (.store 20 (.t 11) (.t 67)), none⟩] [0, 4, 7, 11, 55, 56, 57, 62, 63, 64])
  c_graph_grow_k5))
  (.ops [⟨some 86, .p (.bin 3 .add (.t 64) (.c (.int .i64 ((1 : Nat) : Int)))), none⟩,
    ⟨some 64, .p (.mov (.t 86)), none⟩] [0, 4, 7, 55, 56, 57, 62, 63, 64])) Q e H := by_refl rfl
theorem u_graph_grow_k7_e {P : Program} {Q : VEx → Env → List Ob → Prop} {e : Env} {H : List Ob} : vwp P c_graph_grow_k7 Q e H = vwp P (.seq (.cond (.t 65)
  (.skip)
  (.exit 4))
  c_graph_grow_k6) Q e H := by_refl rfl
theorem u_graph_grow_L8_e {P : Program} {Q : VEx → Env → List Ob → Prop} {e : Env} {H : List Ob} : vwp P c_graph_grow_L8 Q e H = vwp P (.seq (.ops [⟨some 65, .p (.bin 3 .lss (.t 64) (.t 63)), none⟩] [0, 4, 7, 55, 56, 57, 62, 63, 64, 65])
  c_graph_grow_k7) Q e H := by_refl rfl
theorem u_graph_grow_k9_e {P : Program} {Q : VEx → Env → List Ob → Prop} {e : Env} {H : List Ob} : vwp P c_graph_grow_k9 Q e H = vwp P (.block 4 (.loop [0, 4, 7, 55, 56, 57, 62, 63, 64] c_graph_grow_L8)) Q e H := by_refl rfl
theorem u_graph_grow_k10_e {P : Program} {Q : VEx → Env → List Ob → Prop} {e : Env} {H : List Ob} : vwp P c_graph_grow_k10 Q e H = vwp P (.seq (.ops [⟨some 61, .p (.fieldA 1 20 (.t 9)), none⟩,
    ⟨some 62, .p (.load false 1 (.t 61)), none⟩,
    ⟨some 63, .p (.lenV (.t 62)), none⟩,
    ⟨some 64, .p (.mov (.c (.int .i64 ((0 : Nat) : Int)))), none⟩] [0, 4, 7, 55, 56, 57, 62, 63, 64])
  c_graph_grow_k9) Q e H := by_refl rfl
theorem u_graph_grow_k11_e {P : Program} {Q : VEx → Env → List Ob → Prop} {e : Env} {H : List Ob} : vwp P c_graph_grow_k11 Q e H = vwp P (.ops [⟨some 87, .p (.bin 3 .add (.t 57) (.c (.int .i64 ((1 : Nat) : Int)))), none⟩,
    ⟨some 57, .p (.mov (.t 87)), none⟩] [0, 4, 7, 55, 56, 57]) Q e H := by_refl rfl
theorem u_graph_grow_k12_e {P : Program} {Q : VEx → Env → List Ob → Prop} {e : Env} {H : List Ob} : vwp P c_graph_grow_k12 Q e H = vwp P (.seq (.block 3 (.seq (.ops [⟨some 59, .p (.idxA 22 (.t 55) (.t 57)), none⟩,
    ⟨some 60, .p (.load true 22 (.t 59)), none⟩,
    ⟨some 9, .s (.alloc (.agg [.arr 20 1 [.val (.int .u8 ((0 : Nat) : Int)), .val (.int .u8 ((0 : Nat) : Int)), .val (.int .u8 ((0 : Nat) : Int)), .val (.int .u8 ((0 : Nat) : Int)), .val (.int .u8 ((0 : Nat) : Int)), .val (.int .u8 ((0 : Nat) : Int)), .val (.int .u8 ((0 : Nat) : Int)), .val (.int .u8 ((0 : Nat) : Int)), .val (.int .u8 ((0 : Nat) : Int)), .val (.int .u8 ((0 : Nat) : Int)), .val (.int .u8 ((0 : Nat) : Int)), .val (.int .u8 ((0 : Nat) : Int)), .val (.int .u8 ((0 : Nat) : Int)), .val (.int .u8 ((0 : Nat) : Int)), .val (.int .u8 ((0 : Nat) : Int)), .val (.int .u8 ((0 : Nat) : Int)), .val (.int .u8 ((0 : Nat) : Int)), .val (.int .u8 ((0 : Nat) : Int)), .val (.int .u8 ((0 : Nat) : Int)), .val (.int .u8 ((0 : Nat) : Int))], .val (.slice none 0 0), .val (.int .i64 ((0 : Nat) : Int))])), none⟩,
    ⟨none, .s (.store 22 (.t 9) (.t 60)), none⟩] [0, 4, 7, 9, 55, 56, 57])
  c_graph_grow_k10))
  c_graph_grow_k11) Q e H := by_refl rfl
theorem u_graph_grow_k13_e {P : Program} {Q : VEx → Env → List Ob → Prop} {e : Env} {H : List Ob} : vwp P c_graph_grow_k13 Q e H = vwp P (.seq (.cond (.t 58)
  (.skip)
  (.exit 2))
  c_graph_grow_k12) Q e H := by_refl rfl
theorem u_graph_grow_L14_e {P : Program} {Q : VEx → Env → List Ob → Prop} {e : Env} {H : List Ob} : vwp P c_graph_grow_L14 Q e H = vwp P (.seq (.ops [⟨some 58, .p (.bin 3 .lss (.t 57) (.t 56)), none⟩] [0, 4, 7, 55, 56, 57, 58])
  c_graph_grow_k13) Q e H := by_refl rfl
theorem u_graph_grow_k15_e {P : Program} {Q : VEx → Env → List Ob → Prop} {e : Env} {H : List Ob} : vwp P c_graph_grow_k15 Q e H = vwp P (.block 2 (.loop [0, 4, 7, 55, 56, 57] c_graph_grow_L14)) Q e H := by_refl rfl
theorem u_graph_grow_k16_e {P : Program} {Q : VEx → Env → List Ob → Prop} {e : Env} {H : List Ob} : vwp P c_graph_grow_k16 Q e H = vwp P (.seq (.block 7 (.seq (.ops [⟨some 92, .p (.idxA 22 (.t 88) (.t 90)), none⟩,
    ⟨some 93, .p (.load true 22 (.t 92)), none⟩,
    ⟨some 16, .s (.alloc (.agg [.arr 20 1 [.val (.int .u8 ((0 : Nat) : Int)), .val (.int .u8 ((0 : Nat) : Int)), .val (.int .u8 ((0 : Nat) : Int)), .val (.int .u8 ((0 : Nat) : Int)), .val (.int .u8 ((0 : Nat) : Int)), .val (.int .u8 ((0 : Nat) : Int)), .val (.int .u8 ((0 : Nat) : Int)), .val (.int .u8 ((0 : Nat) : Int)), .val (.int .u8 ((0 : Nat) : Int)), .val (.int .u8 ((0 : Nat) : Int)), .val (.int .u8 ((0 : Nat) : Int)), .val (.int .u8 ((0 : Nat) : Int)), .val (.int .u8 ((0 : Nat) : Int)), .val (.int .u8 ((0 : Nat) : Int)), .val (.int .u8 ((0 : Nat) : Int)), .val (.int .u8 ((0 : Nat) : Int)), .val (.int .u8 ((0 : Nat) : Int)), .val (.int .u8 ((0 : Nat) : Int)), .val (.int .u8 ((0 : Nat) : Int)), .val (.int .u8 ((0 : Nat) : Int))], .val (.slice none 0 0), .val (.int .i64 ((0 : Nat) : Int))])), none⟩,
    ⟨none, .s (.store 22 (.t 16) (.t 93)), none⟩] [0, 4, 7, 14, 16, 88, 89, 90])
  (.seq (.ops [⟨some 94, .p (.mov (.t 7)), none⟩,
    ⟨some 95, .p (.fieldA 0 0 (.t 16)), none⟩,
    ⟨some 96, .p (.load true 20 (.t 95)), none⟩,
    ⟨some 97, .p (.gen (.look (.arr 20) (.val (.int .i64 ((0 : Nat) : Int))) false) [.t 94, .t 96]), none⟩,
    ⟨some 98, .p (.bin 3 .eql (.t 97) (.c (.int .i64 ((0 : Nat) : Int)))), none⟩] [0, 4, 7, 14, 16, 88, 89, 90, 98])
  (.cond (.t 98)
  (.ops [⟨some 99, .p (.mov (.t 14)), none⟩,
      ⟨some 100, .p (.fieldA 0 0 (.t 16)), none⟩,
      ⟨some 101, .p (.load true 20 (.t 100)), none⟩,
      ⟨some 102, .s (.bslice 20 1 (.arr 20 1 [.val (.int .u8 ((0 : Nat) : Int)), .val (.int .u8 ((0 : Nat) : Int)), .val (.int .u8 ((0 : Nat) : Int)), .val (.int .u8 ((0 : Nat) : Int)), .val (.int .u8 ((0 : Nat) : Int)), .val (.int .u8 ((0 : Nat) : Int)), .val (.int .u8 ((0 : Nat) : Int)), .val (.int .u8 ((0 : Nat) : Int)), .val (.int .u8 ((0 : Nat) : Int)), .val (.int .u8 ((0 : Nat) : Int)), .val (.int .u8 ((0 : Nat) : Int)), .val (.int .u8 ((0 : Nat) : Int)), .val (.int .u8 ((0 : Nat) : Int)), .val (.int .u8 ((0 : Nat) : Int)), .val (.int .u8 ((0 : Nat) : Int)), .val (.int .u8 ((0 : Nat) : Int)), .val (.int .u8 ((0 : Nat) : Int)), .val (.int .u8 ((0 : Nat) : Int)), .val (.int .u8 ((0 : Nat) : Int)), .val (.int .u8 ((0 : Nat) : Int))]) [⟨0, .t 101⟩]), none⟩,
      ⟨some 103, .s (.app 20 20 (.t 99) (.t 102)), none⟩,
      ⟨some 14, .p (.mov (.t 103)), none⟩] [0, 4, 7, 14, 88, 89, 90])
  (.skip)))))
  (.ops [⟨some 104, .p (.bin 3 .add (.t 90) (.c (.int .i64 ((1 : Nat) : Int)))), none⟩,
    ⟨some 90, .p (.mov (.t 104)), none⟩] [0, 4, 7, 14, 88, 89, 90])) Q e H := by_refl rfl
theorem u_graph_grow_k17_e {P : Program} {Q : VEx → Env → List Ob → Prop} {e : Env} {H : List Ob} : vwp P c_graph_grow_k17 Q e H = vwp P (.seq (.cond (.t 91)
  (.skip)
  (.exit 6))
  c_graph_grow_k16) Q e H := by_refl rfl
theorem u_graph_grow_L18_e {P : Program} {Q : VEx → Env → List Ob → Prop} {e : Env} {H : List Ob} : vwp P c_graph_grow_L18 Q e H = vwp P (.seq (.ops [⟨some 91, .p (.bin 3 .lss (.t 90) (.t 89)), none⟩] [0, 4, 7, 14, 88, 89, 90, 91])
  c_graph_grow_k17) Q e H := by_refl rfl
theorem u_graph_grow_k19_e {P : Program} {Q : VEx → Env → List Ob → Prop} {e : Env} {H : List Ob} : vwp P c_graph_grow_k19 Q e H = vwp P (.block 6 (.own 14 20 (.loop [0, 4, 7, 14, 88, 89, 90] c_graph_grow_L18))) Q e H := by_refl rfl
theorem u_graph_grow_k20_e {P : Program} {Q : VEx → Env → List Ob → Prop} {e : Env} {H : List Ob} : vwp P c_graph_grow_k20 Q e H = vwp P (.seq (.draw 4 [⟨some 127, .p (.mov (.t 7)), none⟩,
    ⟨some 128, .p (.load true 20 (.t 20)), none⟩,
    ⟨some 129, .p (.gen (.look (.arr 20) (.val (.int .i64 ((0 : Nat) : Int))) false) [.t 127, .t 128]), none⟩,
    ⟨some 130, .p (.bin 3 .sub (.t 129) (.c (.int .i64 ((1 : Nat) : Int)))), none⟩,
    ⟨some 131, .s (.ment (.arr 20) (.val (.int .i64 ((0 : Nat) : Int))) (.t 127) (.t 128)), none⟩,
    ⟨some 132, .p (.ext 1 (.t 131)), none⟩,
    ⟨none, .s (.mest (.t 127) (.t 132) (.t 130)), none⟩] [0, 4, 7, 14, 17, 20, 121, 122, 123])
  (.seq (.ops [⟨some 133, .p (.mov (.t 7)), none⟩,
    ⟨some 134, .p (.load true 20 (.t 20)), none⟩,
    ⟨some 135, .p (.gen (.look (.arr 20) (.val (.int .i64 ((0 : Nat) : Int))) false) [.t 133, .t 134]), none⟩,
    ⟨some 136, .p (.bin 3 .eql (.t 135) (.c (.int .i64 ((0 : Nat) : Int)))), none⟩] [0, 4, 7, 14, 17, 20, 121, 122, 123, 136])
  (.cond (.t 136)
  (.ops [⟨some 137, .p (.mov (.t 14)), none⟩,
      ⟨some 138, .p (.load true 20 (.t 20)), none⟩,
      ⟨some 139, .s (.bslice 20 1 (.arr 20 1 [.val (.int .u8 ((0 : Nat) : Int)), .val (.int .u8 ((0 : Nat) : Int)), .val (.int .u8 ((0 : Nat) : Int)), .val (.int .u8 ((0 : Nat) : Int)), .val (.int .u8 ((0 : Nat) : Int)), .val (.int .u8 ((0 : Nat) : Int)), .val (.int .u8 ((0 : Nat) : Int)), .val (.int .u8 ((0 : Nat) : Int)), .val (.int .u8 ((0 : Nat) : Int)), .val (.int .u8 ((0 : Nat) : Int)), .val (.int .u8 ((0 : Nat) : Int)), .val (.int .u8 ((0 : Nat) : Int)), .val (.int .u8 ((0 : Nat) : Int)), .val (.int .u8 ((0 : Nat) : Int)), .val (.int .u8 ((0 : Nat) : Int)), .val (.int .u8 ((0 : Nat) : Int)), .val (.int .u8 ((0 : Nat) : Int)), .val (.int .u8 ((0 : Nat) : Int)), .val (.int .u8 ((0 : Nat) : Int)), .val (.int .u8 ((0 : Nat) : Int))]) [⟨0, .t 138⟩]), none⟩,
      ⟨some 140, .s (.app 20 20 (.t 137) (.t 139)), none⟩,
      ⟨some 14, .p (.mov (.t 140)), none⟩] [0, 4, 7, 14, 17, 121, 122, 123])
  (.skip)))) Q e H := by_refl rfl
theorem u_graph_grow_k21_e {P : Program} {Q : VEx → Env → List Ob → Prop} {e : Env} {H : List Ob} : vwp P c_graph_grow_k21 Q e H = vwp P (.seq (.block 11 (.seq (.ops [⟨some 125, .p (.idxA 20 (.t 121) (.t 123)), none⟩,
    ⟨some 126, .p (.load true 20 (.t 125)), none⟩,
    ⟨some 20, .s (.alloc (.arr 20 1 [.val (.int .u8 ((0 : Nat) : Int)), .val (.int .u8 ((0 : Nat) : Int)), .val (.int .u8 ((0 : Nat) : Int)), .val (.int .u8 ((0 : Nat) : Int)), .val (.int .u8 ((0 : Nat) : Int)), .val (.int .u8 ((0 : Nat) : Int)), .val (.int .u8 ((0 : Nat) : Int)), .val (.int .u8 ((0 : Nat) : Int)), .val (.int .u8 ((0 : Nat) : Int)), .val (.int .u8 ((0 : Nat) : Int)), .val (.int .u8 ((0 : Nat) : Int)), .val (.int .u8 ((0 : Nat) : Int)), .val (.int .u8 ((0 : Nat) : Int)), .val (.int .u8 ((0 : Nat) : Int)), .val (.int .u8 ((0 : Nat) : Int)), .val (.int .u8 ((0 : Nat) : Int)), .val (.int .u8 ((0 : Nat) : Int)), .val (.int .u8 ((0 : Nat) : Int)), .val (.int .u8 ((0 : Nat) : Int)), .val (.int .u8 ((0 : Nat) : Int))])), none⟩,
    ⟨none, .s (.store 20 (.t 20) (.t 126)), none⟩] [0, 4, 7, 14, 17, 20, 121, 122, 123])
  c_graph_grow_k20))
  (.ops [⟨some 141, .p (.bin 3 .add (.t 123) (.c (.int .i64 ((1 : Nat) : Int)))), none⟩,
    ⟨some 123, .p (.mov (.t 141)), none⟩] [0, 4, 7, 14, 17, 121, 122, 123])) Q e H := by_refl rfl
theorem u_graph_grow_k22_e {P : Program} {Q : VEx → Env → List Ob → Prop} {e : Env} {H : List Ob} : vwp P c_graph_grow_k22 Q e H = vwp P (.seq (.cond (.t 124)
  (.skip)
  (.exit 10))
  c_graph_grow_k21) Q e H := by_refl rfl
theorem u_graph_grow_L23_e {P : Program} {Q : VEx → Env → List Ob → Prop} {e : Env} {H : List Ob} : vwp P c_graph_grow_L23 Q e H = vwp P (.seq (.ops [⟨some 124, .p (.bin 3 .lss (.t 123) (.t 122)), none⟩] [0, 4, 7, 14, 17, 121, 122, 123, 124])
  c_graph_grow_k22) Q e H := by_refl rfl
theorem u_graph_grow_k24_e {P : Program} {Q : VEx → Env → List Ob → Prop} {e : Env} {H : List Ob} : vwp P c_graph_grow_k24 Q e H = vwp P (.block 10 (.own 14 20 (.loop [0, 4, 7, 14, 17, 121, 122, 123] c_graph_grow_L23))) Q e H := by_refl rfl
theorem u_graph_grow_k25_e {P : Program} {Q : VEx → Env → List Ob → Prop} {e : Env} {H : List Ob} : vwp P c_graph_grow_k25 Q e H = vwp P (.seq (.ops [⟨some 120, .p (.fieldA 1 20 (.t 18)), none⟩,
    ⟨some 121, .p (.load false 1 (.t 120)), none⟩,
    ⟨some 122, .p (.lenV (.t 121)), none⟩,
    ⟨some 123, .p (.mov (.c (.int .i64 ((0 : Nat) : Int)))), none⟩] [0, 4, 7, 14, 17, 121, 122, 123])
  c_graph_grow_k24) Q e H := by_refl rfl
theorem u_graph_grow_k26_e {P : Program} {Q : VEx → Env → List Ob → Prop} {e : Env} {H : List Ob} : vwp P c_graph_grow_k26 Q e H = vwp P (.seq (.ops [⟨some 118, .p (.mov (.t 14)), none⟩,
    ⟨some 119, .p (.slV 20 (.t 118) (some (.c (.int .i64 ((1 : Nat) : Int)))) none), none⟩,
    ⟨some 14, .p (.mov (.t 119)), none⟩] [0, 4, 7, 14, 17, 18])
  c_graph_grow_k25) Q e H := by_refl rfl
theorem u_graph_grow_k27_e {P : Program} {Q : VEx → Env → List Ob → Prop} {e : Env} {H : List Ob} : vwp P c_graph_grow_k27 Q e H = vwp P (.ops [⟨some 108, .p (.mov (.t 17)), none⟩,
    ⟨some 109, .p (.bin 3 .add (.t 108) (.c (.int .i64 ((1 : Nat) : Int)))), none⟩,
    ⟨some 17, .p (.mov (.t 109)), none⟩] [0, 4, 7, 14, 17]) Q e H := by_refl rfl
theorem u_graph_grow_k28_e {P : Program} {Q : VEx → Env → List Ob → Prop} {e : Env} {H : List Ob} : vwp P c_graph_grow_k28 Q e H = vwp P (.seq (.block 9 (.seq (.draw 7 [⟨some 110, .p (.mov (.t 4)), none⟩,
    ⟨some 111, .p (.nilc (.t 110)), none⟩,
    ⟨some 112, .p (.fieldA 0 0 (.t 111)), none⟩,
    ⟨some 113, .p (.load false 1 (.t 112)), none⟩,
    ⟨some 114, .p (.mov (.t 14)), none⟩,
    ⟨some 115, .p (.idxA 20 (.t 114) (.c (.int .i64 ((0 : Nat) : Int)))), none⟩,
    ⟨some 116, .p (.load true 20 (.t 115)), none⟩,
    ⟨some 117, .p (.gen (.look (.arr 20) (.agg [.arr 20 1 [.val (.int .u8 ((0 : Nat) : Int)), .val (.int .u8 ((0 : Nat) : Int)), .val (.int .u8 ((0 : Nat) : Int)), .val (.int .u8 ((0 : Nat) : Int)), .val (.int .u8 ((0 : Nat) : Int)), .val (.int .u8 ((0 : Nat) : Int)), .val (.int .u8 ((0 : Nat) : Int)), .val (.int .u8 ((0 : Nat) : Int)), .val (.int .u8 ((0 : Nat) : Int)), .val (.int .u8 ((0 : Nat) : Int)), .val (.int .u8 ((0 : Nat) : Int)), .val (.int .u8 ((0 : Nat) : Int)), .val (.int .u8 ((0 : Nat) : Int)), .val (.int .u8 ((0 : Nat) : Int)), .val (.int .u8 ((0 : Nat) : Int)), .val (.int .u8 ((0 : Nat) : Int)), .val (.int .u8 ((0 : Nat) : Int)), .val (.int .u8 ((0 : Nat) : Int)), .val (.int .u8 ((0 : Nat) : Int)), .val (.int .u8 ((0 : Nat) : Int))], .val (.slice none 0 0), .val (.int .i64 ((0 : Nat) : Int))]) false) [.t 113, .t 116]), none⟩,
    ⟨some 18, .s (.alloc (.agg [.arr 20 1 [.val (.int .u8 ((0 : Nat) : Int)), .val (.int .u8 ((0 : Nat) : Int)), .val (.int .u8 ((0 : Nat) : Int)), .val (.int .u8 ((0 : Nat) : Int)), .val (.int .u8 ((0 : Nat) : Int)), .val (.int .u8 ((0 : Nat) : Int)), .val (.int .u8 ((0 : Nat) : Int)), .val (.int .u8 ((0 : Nat) : Int)), .val (.int .u8 ((0 : Nat) : Int)), .val (.int .u8 ((0 : Nat) : Int)), .val (.int .u8 ((0 : Nat) : Int)), .val (.int .u8 ((0 : Nat) : Int)), .val (.int .u8 ((0 : Nat) : Int)), .val (.int .u8 ((0 : Nat) : Int)), .val (.int .u8 ((0 : Nat) : Int)), .val (.int .u8 ((0 : Nat) : Int)), .val (.int .u8 ((0 : Nat) : Int)), .val (.int .u8 ((0 : Nat) : Int)), .val (.int .u8 ((0 : Nat) : Int)), .val (.int .u8 ((0 : Nat) : Int))], .val (.slice none 0 0), .val (.int .i64 ((0 : Nat) : Int))])), none⟩,
    ⟨none, .s (.store 22 (.t 18) (.t 117)), none⟩] [0, 4, 7, 14, 17, 18])
  c_graph_grow_k26))
  c_graph_grow_k27) Q e H := by_refl rfl
theorem u_graph_grow_L29_e {P : Program} {Q : VEx → Env → List Ob → Prop} {e : Env} {H : List Ob} : vwp P c_graph_grow_L29 Q e H = vwp P (.seq (.seq (.ops [⟨some 105, .p (.mov (.t 14)), none⟩,
    ⟨some 106, .p (.lenV (.t 105)), none⟩,
    ⟨some 107, .p (.bin 3 .gtr (.t 106) (.c (.int .i64 ((0 : Nat) : Int)))), none⟩] [0, 4, 7, 14, 17, 107])
  (.cond (.t 107)
  (.skip)
  (.exit 8)))
  c_graph_grow_k28) Q e H := by_refl rfl
theorem u_graph_grow_k30_e {P : Program} {Q : VEx → Env → List Ob → Prop} {e : Env} {H : List Ob} : vwp P c_graph_grow_k30 Q e H = vwp P (.seq (.seq (.ops [⟨some 142, .p (.mov (.t 17)), none⟩,
    ⟨some 143, .p (.mov (.t 0)), none⟩,
    ⟨some 144, .p (.lenV (.t 143)), none⟩,
    ⟨some 145, .p (.bin 3 .lss (.t 142) (.t 144)), none⟩] [4, 145])
  (.cond (.t 145)
  (.seq (.ops [⟨some 146, .p (.iface 30 (.c (.int .i64 ((80 : Nat) : Int)))), none⟩,
      ⟨some 2, .p (.mov (.c (.pointer none))), none⟩,
      ⟨some 3, .p (.mov (.t 146)), none⟩] [2, 3])
    (.ret))
  (.skip)))
  (.seq (.ops [⟨some 147, .p (.mov (.t 4)), none⟩,
    ⟨some 2, .p (.mov (.t 147)), none⟩,
    ⟨some 3, .p (.mov (.c .nilIface)), none⟩] [2, 3])
  (.ret))) Q e H := by_refl rfl
theorem u_graph_grow_k31_e {P : Program} {Q : VEx → Env → List Ob → Prop} {e : Env} {H : List Ob} : vwp P c_graph_grow_k31 Q e H = vwp P (.seq (.block 8 (.own 14 20 (.loop [0, 4, 7, 14, 17] c_graph_grow_L29)))
  c_graph_grow_k30) Q e H := by_refl rfl
theorem u_graph_grow_k32_e {P : Program} {Q : VEx → Env → List Ob → Prop} {e : Env} {H : List Ob} : vwp P c_graph_grow_k32 Q e H = vwp P (.seq (.ops [⟨some 17, .p (.mov (.c (.int .i64 ((0 : Nat) : Int)))), none⟩] [0, 4, 7, 14, 17])
  c_graph_grow_k31) Q e H := by_refl rfl
theorem u_graph_grow_k33_e {P : Program} {Q : VEx → Env → List Ob → Prop} {e : Env} {H : List Ob} : vwp P c_graph_grow_k33 Q e H = vwp P (.seq (.seq (.ops [⟨some 88, .p (.mov (.t 0)), none⟩,
    ⟨some 89, .p (.lenV (.t 88)), none⟩,
    ⟨some 90, .p (.mov (.c (.int .i64 ((0 : Nat) : Int)))), none⟩] [0, 4, 7, 14, 88, 89, 90])
  c_graph_grow_k19)
  c_graph_grow_k32) Q e H := by_refl rfl
theorem u_graph_grow_k34_e {P : Program} {Q : VEx → Env → List Ob → Prop} {e : Env} {H : List Ob} : vwp P c_graph_grow_k34 Q e H = vwp P (.seq (.ops [⟨some 14, .p (.mov (.c (.slice none 0 0))), none⟩] [0, 4, 7, 14])
  c_graph_grow_k33) Q e H := by_refl rfl
theorem u_graph_grow_k35_e {P : Program} {Q : VEx → Env → List Ob → Prop} {e : Env} {H : List Ob} : vwp P c_graph_grow_k35 Q e H = vwp P (.seq (.seq (.ops [⟨some 55, .p (.mov (.t 0)), none⟩,
    ⟨some 56, .p (.lenV (.t 55)), none⟩,
    ⟨some 57, .p (.mov (.c (.int .i64 ((0 : Nat) : Int)))), none⟩] [0, 4, 7, 55, 56, 57])
  c_graph_grow_k15)
  c_graph_grow_k34) Q e H := by_refl rfl
theorem u_graph_grow_k36_e {P : Program} {Q : VEx → Env → List Ob → Prop} {e : Env} {H : List Ob} : vwp P c_graph_grow_k36 Q e H = vwp P (.seq (.ops [⟨some 54, .s (.mkm (.arr 20) none), none⟩,
    ⟨some 7, .p (.mov (.t 54)), none⟩] [0, 4, 7])
  c_graph_grow_k35) Q e H := by_refl rfl
theorem u_graph_grow_k37_e {P : Program} {Q : VEx → Env → List Ob → Prop} {e : Env} {H : List Ob} : vwp P c_graph_grow_k37 Q e H = vwp P (.seq (.seq (.ops [⟨some 40, .p (.mov (.t 0)), none⟩,
    ⟨some 41, .p (.lenV (.t 40)), none⟩,
    ⟨some 42, .p (.bin 3 .gtr (.t 41) (.c (.int .i64 ((2000 : Nat) : Int)))), none⟩,
    ⟨some 43, .p (.mov (.t 42)), none⟩,
    ⟨some 44, .p (.mov (.t 4)), some ⟨43, false⟩⟩,
    ⟨some 45, .p (.nilc (.t 44)), some ⟨43, false⟩⟩,
    ⟨some 46, .p (.fieldA 0 0 (.t 45)), some ⟨43, false⟩⟩,
    ⟨some 47, .p (.load false 1 (.t 46)), some ⟨43, false⟩⟩,
    ⟨some 48, .p (.gen .lenM [.t 47]), some ⟨43, false⟩⟩,
    ⟨some 49, .p (.mov (.t 0)), some ⟨43, false⟩⟩,
    ⟨some 50, .p (.lenV (.t 49)), some ⟨43, false⟩⟩,
    ⟨some 51, .p (.bin 3 .lss (.t 48) (.t 50)), some ⟨43, false⟩⟩,
    ⟨some 52, .p (.pick (.t 43) (.c (.bool true)) (.t 51)), none⟩] [0, 4, 52])
  (.cond (.t 52)
  (.seq (.ops [⟨some 53, .p (.iface 30 (.c (.int .i64 ((80 : Nat) : Int)))), none⟩,
      ⟨some 2, .p (.mov (.c (.pointer none))), none⟩,
      ⟨some 3, .p (.mov (.t 53)), none⟩] [2, 3])
    (.ret))
  (.skip)))
  c_graph_grow_k36) Q e H := by_refl rfl
theorem u_graph_grow_k38_e {P : Program} {Q : VEx → Env → List Ob → Prop} {e : Env} {H : List Ob} : vwp P c_graph_grow_k38 Q e H = vwp P (.seq (.seq (.ops [⟨some 26, .p (.mov (.t 0)), none⟩,
    ⟨some 27, .p (.lenV (.t 26)), none⟩,
    ⟨some 28, .p (.mov (.c (.int .i64 ((0 : Nat) : Int)))), none⟩] [0, 4, 26, 27, 28])
  c_graph_grow_k4)
  c_graph_grow_k37) Q e H := by_refl rfl
theorem u_graph_grow_k39_e {P : Program} {Q : VEx → Env → List Ob → Prop} {e : Env} {H : List Ob} : vwp P c_graph_grow_k39 Q e H = vwp P (.seq (.ops [⟨some 21, .p (.mov (.t 0)), none⟩,
    ⟨some 22, .p (.lenV (.t 21)), none⟩,
    ⟨some 23, .s (.mkm (.arr 20) (some (.t 22))), none⟩,
    ⟨some 24, .p (.build [.val (.map none), .val (.map none)] [1, 1] [⟨0, .t 23⟩]), none⟩,
    ⟨some 25, .s (.box (.t 24)), none⟩,
    ⟨some 4, .p (.mov (.t 25)), none⟩] [0, 4])
  c_graph_grow_k38) Q e H := by_refl rfl
theorem u_graph_grow_e {P : Program} {Q : VEx → Env → List Ob → Prop} {e : Env} {H : List Ob} : vwp P c_graph_grow Q e H = vwp P (.seq (.ops [⟨some 2, .p (.mov (.c (.pointer none))), none⟩,
    ⟨some 3, .p (.mov (.c .nilIface)), none⟩] [0])
  c_graph_grow_k39) Q e H := by_refl rfl
theorem u_graph_grow_r {K : TV → Prop} {e : Env} {H : List Ob} : res r_graph_grow e H K = res [.tmp 2, .tmp 3] e H K := by_refl rfl
def u_graph_grow := (And.intro (And.intro (And.intro (And.intro (And.intro (And.intro @u_graph_grow_k1_e @u_graph_grow_k2_e) (And.intro @u_graph_grow_L3_e @u_graph_grow_k4_e)) (And.intro (And.intro @u_graph_grow_k5_e @u_graph_grow_k6_e) (And.intro @u_graph_grow_k7_e @u_graph_grow_L8_e))) (And.intro (And.intro (And.intro @u_graph_grow_k9_e @u_graph_grow_k10_e) (And.intro @u_graph_grow_k11_e @u_graph_grow_k12_e)) (And.intro (And.intro @u_graph_grow_k13_e @u_graph_grow_L14_e) (And.intro @u_graph_grow_k15_e @u_graph_grow_k16_e)))) (And.intro (And.intro (And.intro (And.intro @u_graph_grow_k17_e @u_graph_grow_L18_e) (And.intro @u_graph_grow_k19_e @u_graph_grow_k20_e)) (And.intro (And.intro @u_graph_grow_k21_e @u_graph_grow_k22_e) (And.intro @u_graph_grow_L23_e @u_graph_grow_k24_e))) (And.intro (And.intro (And.intro @u_graph_grow_k25_e @u_graph_grow_k26_e) (And.intro @u_graph_grow_k27_e @u_graph_grow_k28_e)) (And.intro (And.intro @u_graph_grow_L29_e @u_graph_grow_k30_e) (And.intro @u_graph_grow_k31_e @u_graph_grow_k32_e))))) (And.intro (And.intro (And.intro (And.intro @u_graph_grow_k33_e @u_graph_grow_k34_e) (And.intro @u_graph_grow_k35_e @u_graph_grow_k36_e)) (And.intro (And.intro @u_graph_grow_k37_e @u_graph_grow_k38_e) (And.intro @u_graph_grow_k39_e @u_graph_grow_e))) @u_graph_grow_r))
theorem go_graph_grow {args : List TV} {H : List Ob} {R : TV → List Ob → Prop} (hn : args.length ≤ 148) (h : vwp Tryd.prog c_graph_grow (atEnd r_graph_grow R) (argsE 0 args) H) : VCalls Tryd.prog 28 args H R := vcalls_of Tryd.func28 t_graph_grow w_graph_grow hn h

/-! gitlike/gitlikeref9.Find -/
def c_ref9_Find_L1 : VCode := .seq (.seq (.ops [⟨some 6, .p (.mov (.t 5)), none⟩,
    ⟨some 7, .p (.mov (.t 0)), none⟩,
    ⟨some 8, .p (.lenV (.t 7)), none⟩,
    ⟨some 9, .p (.bin 3 .lss (.t 6) (.t 8)), none⟩] [0, 3, 5, 9])
  (.cond (.t 9)
  (.skip)
  (.exit 0)))
  (.seq (.block 1 (.seq (.draw 6 [⟨some 12, .p (.mov (.t 0)), none⟩,
    ⟨some 13, .p (.mov (.t 5)), none⟩,
    ⟨some 14, .p (.idxA 22 (.t 12) (.t 13)), none⟩,
    ⟨some 15, .p (.fieldA 0 0 (.t 14)), none⟩,
    ⟨some 16, .p (.load true 20 (.t 15)), none⟩,
    ⟨some 17, .p (.load true 20 (.t 3)), none⟩,
    ⟨some 18, .p (.gen (.eqA 20 false) [.t 16, .t 17]), none⟩] [0, 3, 5, 18])
  (.cond (.t 18)
  (.seq (.ops [⟨some 19, .p (.mov (.t 5)), none⟩,
      ⟨some 4, .p (.mov (.t 19)), none⟩] [4])
    (.ret))
  (.skip))))
  (.ops [⟨some 10, .p (.mov (.t 5)), none⟩,
    ⟨some 11, .p (.bin 3 .add (.t 10) (.c (.int .i64 ((1 : Nat) : Int)))), none⟩,
    ⟨some 5, .p (.mov (.t 11)), none⟩] [0, 3, 5]))
def c_ref9_Find_k2 : VCode := .block 0 (.loop [0, 3, 5] c_ref9_Find_L1)
def c_ref9_Find_k3 : VCode := .seq (.ops [⟨some 4, .p (.mov (.c (.int .i64 (-1)))), none⟩] [4])
  (.ret)
def c_ref9_Find_k4 : VCode := .seq (.seq (.ops [⟨some 5, .p (.mov (.c (.int .i64 ((0 : Nat) : Int)))), none⟩] [0, 3, 5])
  c_ref9_Find_k2)
  c_ref9_Find_k3
def c_ref9_Find : VCode := .seq (.ops [⟨some 3, .s (.box (.t 1)), none⟩,
    ⟨some 4, .p (.mov (.c (.int .i64 ((0 : Nat) : Int)))), none⟩] [0, 3])
  c_ref9_Find_k4
def r_ref9_Find : List VR := [.tmp 4]
theorem t_ref9_Find : Tryd.f30.body.bind (trC Tryd.prog Tryd.f30.ntmps) = some (er c_ref9_Find) := by kernel_rfl
theorem w_ref9_Find : trR Tryd.prog Tryd.f30.results.toList = some r_ref9_Find := by kernel_rfl
theorem u_ref9_Find_L1_e {P : Program} {Q : VEx → Env → List Ob → Prop} {e : Env} {H : List Ob} : vwp P c_ref9_Find_L1 Q e H = vwp P (.seq (.seq (.ops [⟨some 6, .p (.mov (.t 5)), none⟩,
    ⟨some 7, .p (.mov (.t 0)), none⟩,
    ⟨some 8, .p (.lenV (.t 7)), none⟩,
    ⟨some 9, .p (.bin 3 .lss (.t 6) (.t 8)), none⟩] [0, 3, 5, 9])
  (.cond (.t 9)
  (.skip)
  (.exit 0)))
  (.seq (.block 1 (.seq (.draw 6 [⟨some 12, .p (.mov (.t 0)), none⟩,
    ⟨some 13, .p (.mov (.t 5)), none⟩,
    ⟨some 14, .p (.idxA 22 (.t 12) (.t 13)), none⟩,
    ⟨some 15, .p (.fieldA 0 0 (.t 14)), none⟩,
    ⟨some 16, .p (.load true 20 (.t 15)), none⟩,
    ⟨some 17, .p (.load true 20 (.t 3)), none⟩,
    ⟨some 18, .p (.gen (.eqA 20 false) [.t 16, .t 17]), none⟩] [0, 3, 5, 18])
  (.cond (.t 18)
  (.seq (.ops [⟨some 19, .p (.mov (.t 5)), none⟩,
      ⟨some 4, .p (.mov (.t 19)), none⟩] [4])
    (.ret))
  (.skip))))
  (.ops [⟨some 10, .p (.mov (.t 5)), none⟩,
    ⟨some 11, .p (.bin 3 .add (.t 10) (.c (.int .i64 ((1 : Nat) : Int)))), none⟩,
    ⟨some 5, .p (.mov (.t 11)), none⟩] [0, 3, 5]))) Q e H := by_refl rfl
theorem u_ref9_Find_k2_e {P : Program} {Q : VEx → Env → List Ob → Prop} {e : Env} {H : List Ob} : vwp P c_ref9_Find_k2 Q e H = vwp P (.block 0 (.loop [0, 3, 5] c_ref9_Find_L1)) Q e H := by_refl rfl
theorem u_ref9_Find_k3_e {P : Program} {Q : VEx → Env → List Ob → Prop} {e : Env} {H : List Ob} : vwp P c_ref9_Find_k3 Q e H = vwp P (.seq (.ops [⟨some 4, .p (.mov (.c (.int .i64 (-1)))), none⟩] [4])
  (.ret)) Q e H := by_refl rfl
theorem u_ref9_Find_k4_e {P : Program} {Q : VEx → Env → List Ob → Prop} {e : Env} {H : List Ob} : vwp P c_ref9_Find_k4 Q e H = vwp P (.seq (.seq (.ops [⟨some 5, .p (.mov (.c (.int .i64 ((0 : Nat) : Int)))), none⟩] [0, 3, 5])
  c_ref9_Find_k2)
  c_ref9_Find_k3) Q e H := by_refl rfl
theorem u_ref9_Find_e {P : Program} {Q : VEx → Env → List Ob → Prop} {e : Env} {H : List Ob} : vwp P c_ref9_Find Q e H = vwp P (.seq (.ops [⟨some 3, .s (.box (.t 1)), none⟩,
    ⟨some 4, .p (.mov (.c (.int .i64 ((0 : Nat) : Int)))), none⟩] [0, 3])
  c_ref9_Find_k4) Q e H := by_refl rfl
theorem u_ref9_Find_r {K : TV → Prop} {e : Env} {H : List Ob} : res r_ref9_Find e H K = res [.tmp 4] e H K := by_refl rfl
def u_ref9_Find := (And.intro (And.intro (And.intro @u_ref9_Find_L1_e @u_ref9_Find_k2_e) (And.intro @u_ref9_Find_k3_e @u_ref9_Find_k4_e)) (And.intro @u_ref9_Find_e @u_ref9_Find_r))
theorem go_ref9_Find {args : List TV} {H : List Ob} {R : TV → List Ob → Prop} (hn : args.length ≤ 20) (h : vwp Tryd.prog c_ref9_Find (atEnd r_ref9_Find R) (argsE 0 args) H) : VCalls Tryd.prog 30 args H R := vcalls_of Tryd.func30 t_ref9_Find w_ref9_Find hn h

/-! gitlike/gitlikeref9.Reach -/
def c_ref9_Reach_k1 : VCode := .seq (.block 1 (.seq (.ops [⟨some 21, .p (.mov (.t 0)), none⟩,
    ⟨some 22, .p (.mov (.t 1)), none⟩,
    ⟨some 23, .p (.mov (.t 6)), none⟩,
    ⟨some 24, .p (.idxA 20 (.t 22) (.t 23)), none⟩,
    ⟨some 25, .p (.load true 20 (.t 24)), none⟩,
    ⟨some 26, .s (.call 30 [.t 21, .t 25]), none⟩,
    ⟨some 7, .p (.mov (.t 26)), none⟩] [0, 1, 5, 6, 7])
  (.ops [⟨some 27, .p (.mov (.t 5)), none⟩,
    ⟨some 28, .p (.mov (.t 7)), none⟩,
    ⟨some 29, .p (.idxA 1 (.t 27) (.t 28)), none⟩,
    ⟨none, .s (.store 1 (.t 29) (.c (.bool true))), none⟩] [0, 1, 5, 6])))
  (.ops [⟨some 19, .p (.mov (.t 6)), none⟩,
    ⟨some 20, .p (.bin 3 .add (.t 19) (.c (.int .i64 ((1 : Nat) : Int)))), none⟩,
    ⟨some 6, .p (.mov (.t 20)), none⟩] [0, 1, 5, 6])
def c_ref9_Reach_L2 : VCode := .seq (.seq (.ops [⟨some 15, .p (.mov (.t 6)), none⟩,
    ⟨some 16, .p (.mov (.t 1)), none⟩,
    ⟨some 17, .p (.lenV (.t 16)), none⟩,
    ⟨some 18, .p (.bin 3 .lss (.t 15) (.t 17)), none⟩] [0, 1, 5, 6, 18])
  (.cond (.t 18)
  (.skip)
  (.exit 0)))
  c_ref9_Reach_k1
def c_ref9_Reach_k3 : VCode := .block 0 (.loop [0, 1, 5, 6] c_ref9_Reach_L2)
def c_ref9_Reach_k4 : VCode := .seq (.block 7 (.seq (.ops [⟨some 53, .p (.mov (.t 0)), none⟩,
    ⟨some 54, .p (.mov (.t 0)), none⟩,
    ⟨some 55, .p (.mov (.t 9)), none⟩,
    ⟨some 56, .p (.idxA 22 (.t 54) (.t 55)), none⟩,
    ⟨some 57, .p (.fieldA 1 20 (.t 56)), none⟩,
    ⟨some 58, .p (.load false 1 (.t 57)), none⟩,
    ⟨some 59, .p (.mov (.t 10)), none⟩,
    ⟨some 60, .p (.idxA 20 (.t 58) (.t 59)), none⟩,
    ⟨some 61, .p (.load true 20 (.t 60)), none⟩,
    ⟨some 62, .s (.call 30 [.t 53, .t 61]), none⟩,
    ⟨some 11, .p (.mov (.t 62)), none⟩] [0, 5, 8, 9, 10, 11])
  (.seq (.ops [⟨some 63, .p (.mov (.t 5)), none⟩,
    ⟨some 64, .p (.mov (.t 11)), none⟩,
    ⟨some 65, .p (.idxA 1 (.t 63) (.t 64)), none⟩,
    ⟨some 66, .p (.load false 1 (.t 65)), none⟩,
    ⟨some 67, .p (.un .not (.t 66)), none⟩] [0, 5, 8, 9, 10, 11, 67])
  (.cond (.t 67)
  (.seq (.ops [⟨some 68, .p (.mov (.t 5)), none⟩,
      ⟨some 69, .p (.mov (.t 11)), none⟩,
      ⟨some 70, .p (.idxA 1 (.t 68) (.t 69)), none⟩,
      ⟨none, .s (.store 1 (.t 70) (.c (.bool true))), none⟩] [0, 5, 9, 10])
    (.ops [⟨some 8, .p (.mov (.c (.bool true))), none⟩] [0, 5, 8, 9, 10]))
  (.skip)))))
  (.ops [⟨some 51, .p (.mov (.t 10)), none⟩,
    ⟨some 52, .p (.bin 3 .add (.t 51) (.c (.int .i64 ((1 : Nat) : Int)))), none⟩,
    ⟨some 10, .p (.mov (.t 52)), none⟩] [0, 5, 8, 9, 10])
def c_ref9_Reach_L5 : VCode := .seq (.seq (.ops [⟨some 37, .p (.mov (.t 10)), none⟩,
    ⟨some 38, .p (.mov (.t 0)), none⟩,
    ⟨some 39, .p (.mov (.t 9)), none⟩,
    ⟨some 40, .p (.idxA 22 (.t 38) (.t 39)), none⟩,
    ⟨some 41, .p (.fieldA 1 20 (.t 40)), none⟩,
    ⟨some 42, .p (.load false 1 (.t 41)), none⟩,
    ⟨some 43, .p (.lenV (.t 42)), none⟩,
    ⟨some 44, .p (.bin 3 .lss (.t 37) (.t 43)), none⟩,
    ⟨some 45, .p (.mov (.t 44)), none⟩,
    ⟨some 46, .p (.mov (.t 5)), some ⟨45, true⟩⟩,
    ⟨some 47, .p (.mov (.t 9)), some ⟨45, true⟩⟩,
    ⟨some 48, .p (.idxA 1 (.t 46) (.t 47)), some ⟨45, true⟩⟩,
    ⟨some 49, .p (.load false 1 (.t 48)), some ⟨45, true⟩⟩,
    ⟨some 50, .p (.pick (.t 45) (.t 49) (.c (.bool false))), none⟩] [0, 5, 8, 9, 10, 50])
  (.cond (.t 50)
  (.skip)
  (.exit 6)))
  c_ref9_Reach_k4
def c_ref9_Reach_k6 : VCode := .block 6 (.loop [0, 5, 8, 9, 10] c_ref9_Reach_L5)
def c_ref9_Reach_k7 : VCode := .ops [⟨some 35, .p (.mov (.t 9)), none⟩,
    ⟨some 36, .p (.bin 3 .add (.t 35) (.c (.int .i64 ((1 : Nat) : Int)))), none⟩,
    ⟨some 9, .p (.mov (.t 36)), none⟩] [0, 5, 8, 9]
def c_ref9_Reach_k8 : VCode := .seq (.block 5 (.seq (.ops [⟨some 10, .p (.mov (.c (.int .i64 ((0 : Nat) : Int)))), none⟩] [0, 5, 8, 9, 10])
  c_ref9_Reach_k6))
  c_ref9_Reach_k7
def c_ref9_Reach_L9 : VCode := .seq (.seq (.ops [⟨some 31, .p (.mov (.t 9)), none⟩,
    ⟨some 32, .p (.mov (.t 0)), none⟩,
    ⟨some 33, .p (.lenV (.t 32)), none⟩,
    ⟨some 34, .p (.bin 3 .lss (.t 31) (.t 33)), none⟩] [0, 5, 8, 9, 34])
  (.cond (.t 34)
  (.skip)
  (.exit 4)))
  c_ref9_Reach_k8
def c_ref9_Reach_k10 : VCode := .block 4 (.loop [0, 5, 8, 9] c_ref9_Reach_L9)
def c_ref9_Reach_k11 : VCode := .seq (.ops [⟨some 9, .p (.mov (.c (.int .i64 ((0 : Nat) : Int)))), none⟩] [0, 5, 8, 9])
  c_ref9_Reach_k10
def c_ref9_Reach_k12 : VCode := .block 3 (.seq (.ops [⟨some 8, .p (.mov (.c (.bool false))), none⟩] [0, 5, 8])
  c_ref9_Reach_k11)
def c_ref9_Reach_L13 : VCode := .seq (.seq (.ops [⟨some 30, .p (.mov (.t 8)), none⟩] [0, 5, 30])
  (.cond (.t 30)
  (.skip)
  (.exit 2)))
  c_ref9_Reach_k12
def c_ref9_Reach_k14 : VCode := .block 2 (.loop [0, 5, 8] c_ref9_Reach_L13)
def c_ref9_Reach_k15 : VCode := .seq (.ops [⟨some 71, .p (.mov (.t 5)), none⟩,
    ⟨some 4, .p (.mov (.t 71)), none⟩] [4])
  (.ret)
def c_ref9_Reach_k16 : VCode := .seq (.seq (.ops [⟨some 8, .p (.mov (.c (.bool true))), none⟩] [0, 5, 8])
  c_ref9_Reach_k14)
  c_ref9_Reach_k15
def c_ref9_Reach_k17 : VCode := .seq (.seq (.ops [⟨some 6, .p (.mov (.c (.int .i64 ((0 : Nat) : Int)))), none⟩] [0, 1, 5, 6])
  c_ref9_Reach_k3)
  c_ref9_Reach_k16
def c_ref9_Reach_k18 : VCode := .seq (.ops [⟨some 12, .p (.mov (.t 0)), none⟩,
    ⟨some 13, .p (.lenV (.t 12)), none⟩,
    ⟨some 14, .s (.mks 1 1 (.val (.bool false)) (.t 13) (.t 13)), none⟩,
    ⟨some 5, .p (.mov (.t 14)), none⟩] [0, 1, 5])
  c_ref9_Reach_k17
def c_ref9_Reach : VCode := .seq (.ops [⟨some 4, .p (.mov (.c (.slice none 0 0))), none⟩] [0, 1])
  c_ref9_Reach_k18
def r_ref9_Reach : List VR := [.tmp 4]
theorem t_ref9_Reach : Tryd.f31.body.bind (trC Tryd.prog Tryd.f31.ntmps) = some (er c_ref9_Reach) := by kernel_rfl
theorem w_ref9_Reach : trR Tryd.prog Tryd.f31.results.toList = some r_ref9_Reach := by kernel_rfl
theorem u_ref9_Reach_k1_e {P : Program} {Q : VEx → Env → List Ob → Prop} {e : Env} {H : List Ob} : vwp P c_ref9_Reach_k1 Q e H = vwp P (.seq (.block 1 (.seq (.ops [⟨some 21, .p (.mov (.t 0)), none⟩,
    ⟨some 22, .p (.mov (.t 1)), none⟩,
    ⟨some 23, .p (.mov (.t 6)), none⟩,
    ⟨some 24, .p (.idxA 20 (.t 22) (.t 23)), none⟩,
    ⟨some 25, .p (.load true 20 (.t 24)), none⟩,
    ⟨some 26, .s (.call 30 [.t 21, .t 25]), none⟩,
    ⟨some 7, .p (.mov (.t 26)), none⟩] [0, 1, 5, 6, 7])
  (.ops [⟨some 27, .p (.mov (.t 5)), none⟩,
    ⟨some 28, .p (.mov (.t 7)), none⟩,
    ⟨some 29, .p (.idxA 1 (.t 27) (.t 28)), none⟩,
    ⟨none, .s (.store 1 (.t 29) (.c (.bool true))), none⟩] [0, 1, 5, 6])))
  (.ops [⟨some 19, .p (.mov (.t 6)), none⟩,
    ⟨some 20, .p (.bin 3 .add (.t 19) (.c (.int .i64 ((1 : Nat) : Int)))), none⟩,
    ⟨some 6, .p (.mov (.t 20)), none⟩] [0, 1, 5, 6])) Q e H := by_refl rfl
theorem u_ref9_Reach_L2_e {P : Program} {Q : VEx → Env → List Ob → Prop} {e : Env} {H : List Ob} : vwp P c_ref9_Reach_L2 Q e H = vwp P (.seq (.seq (.ops [⟨some 15, .p (.mov (.t 6)), none⟩,
    ⟨some 16, .p (.mov (.t 1)), none⟩,
    ⟨some 17, .p (.lenV (.t 16)), none⟩,
    ⟨some 18, .p (.bin 3 .lss (.t 15) (.t 17)), none⟩] [0, 1, 5, 6, 18])
  (.cond (.t 18)
  (.skip)
  (.exit 0)))
  c_ref9_Reach_k1) Q e H := by_refl rfl
theorem u_ref9_Reach_k3_e {P : Program} {Q : VEx → Env → List Ob → Prop} {e : Env} {H : List Ob} : vwp P c_ref9_Reach_k3 Q e H = vwp P (.block 0 (.loop [0, 1, 5, 6] c_ref9_Reach_L2)) Q e H := by_refl rfl
theorem u_ref9_Reach_k4_e {P : Program} {Q : VEx → Env → List Ob → Prop} {e : Env} {H : List Ob} : vwp P c_ref9_Reach_k4 Q e H = vwp P (.seq (.block 7 (.seq (.ops [⟨some 53, .p (.mov (.t 0)), none⟩,
    ⟨some 54, .p (.mov (.t 0)), none⟩,
    ⟨some 55, .p (.mov (.t 9)), none⟩,
    ⟨some 56, .p (.idxA 22 (.t 54) (.t 55)), none⟩,
    ⟨some 57, .p (.fieldA 1 20 (.t 56)), none⟩,
    ⟨some 58, .p (.load false 1 (.t 57)), none⟩,
    ⟨some 59, .p (.mov (.t 10)), none⟩,
    ⟨some 60, .p (.idxA 20 (.t 58) (.t 59)), none⟩,
    ⟨some 61, .p (.load true 20 (.t 60)), none⟩,
    ⟨some 62, .s (.call 30 [.t 53, .t 61]), none⟩,
    ⟨some 11, .p (.mov (.t 62)), none⟩] [0, 5, 8, 9, 10, 11])
  (.seq (.ops [⟨some 63, .p (.mov (.t 5)), none⟩,
    ⟨some 64, .p (.mov (.t 11)), none⟩,
    ⟨some 65, .p (.idxA 1 (.t 63) (.t 64)), none⟩,
    ⟨some 66, .p (.load false 1 (.t 65)), none⟩,
    ⟨some 67, .p (.un .not (.t 66)), none⟩] [0, 5, 8, 9, 10, 11, 67])
  (.cond (.t 67)
  (.seq (.ops [⟨some 68, .p (.mov (.t 5)), none⟩,
      ⟨some 69, .p (.mov (.t 11)), none⟩,
      ⟨some 70, .p (.idxA 1 (.t 68) (.t 69)), none⟩,
      ⟨none, .s (.store 1 (.t 70) (.c (.bool true))), none⟩] [0, 5, 9, 10])
    (.ops [⟨some 8, .p (.mov (.c (.bool true))), none⟩] [0, 5, 8, 9, 10]))
  (.skip)))))
  (.ops [⟨some 51, .p (.mov (.t 10)), none⟩,
    ⟨some 52, .p (.bin 3 .add (.t 51) (.c (.int .i64 ((1 : Nat) : Int)))), none⟩,
    ⟨some 10, .p (.mov (.t 52)), none⟩] [0, 5, 8, 9, 10])) Q e H := by_refl rfl
theorem u_ref9_Reach_L5_e {P : Program} {Q : VEx → Env → List Ob → Prop} {e : Env} {H : List Ob} : vwp P c_ref9_Reach_L5 Q e H = vwp P (.seq (.seq (.ops [⟨some 37, .p (.mov (.t 10)), none⟩,
    ⟨some 38, .p (.mov (.t 0)), none⟩,
    ⟨some 39, .p (.mov (.t 9)), none⟩,
    ⟨some 40, .p (.idxA 22 (.t 38) (.t 39)), none⟩,
    ⟨some 41, .p (.fieldA 1 20 (.t 40)), none⟩,
    ⟨some 42, .p (.load false 1 (.t 41)), none⟩,
    ⟨some 43, .p (.lenV (.t 42)), none⟩,
    ⟨some 44, .p (.bin 3 .lss (.t 37) (.t 43)), none⟩,
    ⟨some 45, .p (.mov (.t 44)), none⟩,
    ⟨some 46, .p (.mov (.t 5)), some ⟨45, true⟩⟩,
    ⟨some 47, .p (.mov (.t 9)), some ⟨45, true⟩⟩,
    ⟨some 48, .p (.idxA 1 (.t 46) (.t 47)), some ⟨45, true⟩⟩,
    ⟨some 49, .p (.load false 1 (.t 48)), some ⟨45, true⟩⟩,
    ⟨some 50, .p (.pick (.t 45) (.t 49) (.c (.bool false))), none⟩] [0, 5, 8, 9, 10, 50])
  (.cond (.t 50)
  (.skip)
  (.exit 6)))
  c_ref9_Reach_k4) Q e H := by_refl rfl
theorem u_ref9_Reach_k6_e {P : Program} {Q : VEx → Env → List Ob → Prop} {e : Env} {H : List Ob} : vwp P c_ref9_Reach_k6 Q e H = vwp P (.block 6 (.loop [0, 5, 8, 9, 10] c_ref9_Reach_L5)) Q e H := by_refl rfl
theorem u_ref9_Reach_k7_e {P : Program} {Q : VEx → Env → List Ob → Prop} {e : Env} {H : List Ob} : vwp P c_ref9_Reach_k7 Q e H = vwp P (.ops [⟨some 35, .p (.mov (.t 9)), none⟩,
    ⟨some 36, .p (.bin 3 .add (.t 35) (.c (.int .i64 ((1 : Nat) : Int)))), none⟩,
    ⟨some 9, .p (.mov (.t 36)), none⟩] [0, 5, 8, 9]) Q e H := by_refl rfl
theorem u_ref9_Reach_k8_e {P : Program} {Q : VEx → Env → List Ob → Prop} {e : Env} {H : List Ob} : vwp P c_ref9_Reach_k8 Q e H = vwp P (.seq (.block 5 (.seq (.ops [⟨some 10, .p (.mov (.c (.int .i64 ((0 : Nat) : Int)))), none⟩] [0, 5, 8, 9, 10])
  c_ref9_Reach_k6))
  c_ref9_Reach_k7) Q e H := by_refl rfl
theorem u_ref9_Reach_L9_e {P : Program} {Q : VEx → Env → List Ob → Prop} {e : Env} {H : List Ob} : vwp P c_ref9_Reach_L9 Q e H = vwp P (.seq (.seq (.ops [⟨some 31, .p (.mov (.t 9)), none⟩,
    ⟨some 32, .p (.mov (.t 0)), none⟩,
    ⟨some 33, .p (.lenV (.t 32)), none⟩,
    ⟨some 34, .p (.bin 3 .lss (.t 31) (.t 33)), none⟩] [0, 5, 8, 9, 34])
  (.cond (.t 34)
  (.skip)
  (.exit 4)))
  c_ref9_Reach_k8) Q e H := by_refl rfl
theorem u_ref9_Reach_k10_e {P : Program} {Q : VEx → Env → List Ob → Prop} {e : Env} {H : List Ob} : vwp P c_ref9_Reach_k10 Q e H = vwp P (.block 4 (.loop [0, 5, 8, 9] c_ref9_Reach_L9)) Q e H := by_refl rfl
theorem u_ref9_Reach_k11_e {P : Program} {Q : VEx → Env → List Ob → Prop} {e : Env} {H : List Ob} : vwp P c_ref9_Reach_k11 Q e H = vwp P (.seq (.ops [⟨some 9, .p (.mov (.c (.int .i64 ((0 : Nat) : Int)))), none⟩] [0, 5, 8, 9])
  c_ref9_Reach_k10) Q e H := by_refl rfl
theorem u_ref9_Reach_k12_e {P : Program} {Q : VEx → Env → List Ob → Prop} {e : Env} {H : List Ob} : vwp P c_ref9_Reach_k12 Q e H = vwp P (.block 3 (.seq (.ops [⟨some 8, .p (.mov (.c (.bool false))), none⟩] [0, 5, 8])
  c_ref9_Reach_k11)) Q e H := by_refl rfl
theorem u_ref9_Reach_L13_e {P : Program} {Q : VEx → Env → List Ob → Prop} {e : Env} {H : List Ob} : vwp P c_ref9_Reach_L13 Q e H = vwp P (.seq (.seq (.ops [⟨some 30, .p (.mov (.t 8)), none⟩] [0, 5, 30])
  (.cond (.t 30)
  (.skip)
  (.exit 2)))
  c_ref9_Reach_k12) Q e H := by_refl rfl
theorem u_ref9_Reach_k14_e {P : Program} {Q : VEx → Env → List Ob → Prop} {e : Env} {H : List Ob} : vwp P c_ref9_Reach_k14 Q e H = vwp P (.block 2 (.loop [0, 5, 8] c_ref9_Reach_L13)) Q e H := by_refl rfl
theorem u_ref9_Reach_k15_e {P : Program} {Q : VEx → Env → List Ob → Prop} {e : Env} {H : List Ob} : vwp P c_ref9_Reach_k15 Q e H = vwp P (.seq (.ops [⟨some 71, .p (.mov (.t 5)), none⟩,
    ⟨some 4, .p (.mov (.t 71)), none⟩] [4])
  (.ret)) Q e H := by_refl rfl
theorem u_ref9_Reach_k16_e {P : Program} {Q : VEx → Env → List Ob → Prop} {e : Env} {H : List Ob} : vwp P c_ref9_Reach_k16 Q e H = vwp P (.seq (.seq (.ops [⟨some 8, .p (.mov (.c (.bool true))), none⟩] [0, 5, 8])
  c_ref9_Reach_k14)
  c_ref9_Reach_k15) Q e H := by_refl rfl
theorem u_ref9_Reach_k17_e {P : Program} {Q : VEx → Env → List Ob → Prop} {e : Env} {H : List Ob} : vwp P c_ref9_Reach_k17 Q e H = vwp P (.seq (.seq (.ops [⟨some 6, .p (.mov (.c (.int .i64 ((0 : Nat) : Int)))), none⟩] [0, 1, 5, 6])
  c_ref9_Reach_k3)
  c_ref9_Reach_k16) Q e H := by_refl rfl
theorem u_ref9_Reach_k18_e {P : Program} {Q : VEx → Env → List Ob → Prop} {e : Env} {H : List Ob} : vwp P c_ref9_Reach_k18 Q e H = vwp P (.seq (.ops [⟨some 12, .p (.mov (.t 0)), none⟩,
    ⟨some 13, .p (.lenV (.t 12)), none⟩,
    ⟨some 14, .s (.mks 1 1 (.val (.bool false)) (.t 13) (.t 13)), none⟩,
    ⟨some 5, .p (.mov (.t 14)), none⟩] [0, 1, 5])
  c_ref9_Reach_k17) Q e H := by_refl rfl
theorem u_ref9_Reach_e {P : Program} {Q : VEx → Env → List Ob → Prop} {e : Env} {H : List Ob} : vwp P c_ref9_Reach Q e H = vwp P (.seq (.ops [⟨some 4, .p (.mov (.c (.slice none 0 0))), none⟩] [0, 1])
  c_ref9_Reach_k18) Q e H := by_refl rfl
theorem u_ref9_Reach_r {K : TV → Prop} {e : Env} {H : List Ob} : res r_ref9_Reach e H K = res [.tmp 4] e H K := by_refl rfl
def u_ref9_Reach := (And.intro (And.intro (And.intro (And.intro (And.intro @u_ref9_Reach_k1_e @u_ref9_Reach_L2_e) (And.intro @u_ref9_Reach_k3_e @u_ref9_Reach_k4_e)) (And.intro (And.intro @u_ref9_Reach_L5_e @u_ref9_Reach_k6_e) (And.intro @u_ref9_Reach_k7_e @u_ref9_Reach_k8_e))) (And.intro (And.intro (And.intro @u_ref9_Reach_L9_e @u_ref9_Reach_k10_e) (And.intro @u_ref9_Reach_k11_e @u_ref9_Reach_k12_e)) (And.intro (And.intro @u_ref9_Reach_L13_e @u_ref9_Reach_k14_e) (And.intro @u_ref9_Reach_k15_e @u_ref9_Reach_k16_e)))) (And.intro (And.intro @u_ref9_Reach_k17_e @u_ref9_Reach_k18_e) (And.intro @u_ref9_Reach_e @u_ref9_Reach_r)))
theorem go_ref9_Reach {args : List TV} {H : List Ob} {R : TV → List Ob → Prop} (hn : args.length ≤ 72) (h : vwp Tryd.prog c_ref9_Reach (atEnd r_ref9_Reach R) (argsE 0 args) H) : VCalls Tryd.prog 31 args H R := vcalls_of Tryd.func31 t_ref9_Reach w_ref9_Reach hn h

/-! gitlike/gitlikeref9.Check -/
def c_ref9_Check_k1 : VCode := .seq (.block 3 (.seq (.ops [⟨some 36, .p (.mov (.t 0)), none⟩,
    ⟨some 37, .p (.mov (.t 0)), none⟩,
    ⟨some 38, .p (.mov (.t 3)), none⟩,
    ⟨some 39, .p (.idxA 22 (.t 37) (.t 38)), none⟩,
    ⟨some 40, .p (.fieldA 1 20 (.t 39)), none⟩,
    ⟨some 41, .p (.load false 1 (.t 40)), none⟩,
    ⟨some 42, .p (.mov (.t 4)), none⟩,
    ⟨some 43, .p (.idxA 20 (.t 41) (.t 42)), none⟩,
    ⟨some 44, .p (.load true 20 (.t 43)), none⟩,
    ⟨some 45, .s (.call 30 [.t 36, .t 44]), none⟩,
    ⟨some 5, .p (.mov (.t 45)), none⟩] [0, 3, 4, 5])
  (.seq (.ops [⟨some 46, .p (.mov (.t 5)), none⟩,
    ⟨some 47, .p (.bin 3 .lss (.t 46) (.c (.int .i64 ((0 : Nat) : Int)))), none⟩] [0, 3, 4, 47])
  (.cond (.t 47)
  (.seq (.ops [⟨some 2, .p (.mov (.c (.int .i64 ((80 : Nat) : Int)))), none⟩] [2])
    (.ret))
  (.skip)))))
  (.ops [⟨some 34, .p (.mov (.t 4)), none⟩,
    ⟨some 35, .p (.bin 3 .add (.t 34) (.c (.int .i64 ((1 : Nat) : Int)))), none⟩,
    ⟨some 4, .p (.mov (.t 35)), none⟩] [0, 3, 4])
def c_ref9_Check_L2 : VCode := .seq (.seq (.ops [⟨some 26, .p (.mov (.t 4)), none⟩,
    ⟨some 27, .p (.mov (.t 0)), none⟩,
    ⟨some 28, .p (.mov (.t 3)), none⟩,
    ⟨some 29, .p (.idxA 22 (.t 27) (.t 28)), none⟩,
    ⟨some 30, .p (.fieldA 1 20 (.t 29)), none⟩,
    ⟨some 31, .p (.load false 1 (.t 30)), none⟩,
    ⟨some 32, .p (.lenV (.t 31)), none⟩,
    ⟨some 33, .p (.bin 3 .lss (.t 26) (.t 32)), none⟩] [0, 3, 4, 33])
  (.cond (.t 33)
  (.skip)
  (.exit 2)))
  c_ref9_Check_k1
def c_ref9_Check_k3 : VCode := .block 2 (.loop [0, 3, 4] c_ref9_Check_L2)
def c_ref9_Check_k4 : VCode := .seq (.ops [⟨some 4, .p (.mov (.c (.int .i64 ((0 : Nat) : Int)))), none⟩] [0, 3, 4])
  c_ref9_Check_k3
def c_ref9_Check_k5 : VCode := .ops [⟨some 15, .p (.mov (.t 3)), none⟩,
    ⟨some 16, .p (.bin 3 .add (.t 15) (.c (.int .i64 ((1 : Nat) : Int)))), none⟩,
    ⟨some 3, .p (.mov (.t 16)), none⟩] [0, 3]
def c_ref9_Check_k6 : VCode := .seq (.block 1 (.seq (.seq (.ops [⟨some 17, .p (.mov (.t 0)), none⟩,
    ⟨some 18, .p (.mov (.t 0)), none⟩,
    ⟨some 19, .p (.mov (.t 3)), none⟩,
    ⟨some 20, .p (.idxA 22 (.t 18) (.t 19)), none⟩,
    ⟨some 21, .p (.fieldA 0 0 (.t 20)), none⟩,
    ⟨some 22, .p (.load true 20 (.t 21)), none⟩,
    ⟨some 23, .s (.call 30 [.t 17, .t 22]), none⟩,
    ⟨some 24, .p (.mov (.t 3)), none⟩,
    ⟨some 25, .p (.bin 3 .neq (.t 23) (.t 24)), none⟩] [0, 3, 25])
  (.cond (.t 25)
  (.seq (.ops [⟨some 2, .p (.mov (.c (.int .i64 ((80 : Nat) : Int)))), none⟩] [2])
    (.ret))
  (.skip)))
  c_ref9_Check_k4))
  c_ref9_Check_k5
def c_ref9_Check_L7 : VCode := .seq (.seq (.ops [⟨some 11, .p (.mov (.t 3)), none⟩,
    ⟨some 12, .p (.mov (.t 0)), none⟩,
    ⟨some 13, .p (.lenV (.t 12)), none⟩,
    ⟨some 14, .p (.bin 3 .lss (.t 11) (.t 13)), none⟩] [0, 3, 14])
  (.cond (.t 14)
  (.skip)
  (.exit 0)))
  c_ref9_Check_k6
def c_ref9_Check_k8 : VCode := .block 0 (.loop [0, 3] c_ref9_Check_L7)
def c_ref9_Check_k9 : VCode := .seq (.block 5 (.seq (.ops [⟨some 54, .p (.mov (.t 0)), none⟩,
    ⟨some 55, .p (.mov (.t 0)), none⟩,
    ⟨some 56, .p (.mov (.t 6)), none⟩,
    ⟨some 57, .p (.idxA 22 (.t 55) (.t 56)), none⟩,
    ⟨some 58, .p (.fieldA 1 20 (.t 57)), none⟩,
    ⟨some 59, .p (.load false 1 (.t 58)), none⟩,
    ⟨some 60, .s (.call 31 [.t 54, .t 59]), none⟩,
    ⟨some 7, .p (.mov (.t 60)), none⟩] [0, 6, 7])
  (.seq (.ops [⟨some 61, .p (.mov (.t 7)), none⟩,
    ⟨some 62, .p (.mov (.t 6)), none⟩,
    ⟨some 63, .p (.idxA 1 (.t 61) (.t 62)), none⟩,
    ⟨some 64, .p (.load false 1 (.t 63)), none⟩] [0, 6, 64])
  (.cond (.t 64)
  (.seq (.ops [⟨some 2, .p (.mov (.c (.int .i64 ((80 : Nat) : Int)))), none⟩] [2])
    (.ret))
  (.skip)))))
  (.ops [⟨some 52, .p (.mov (.t 6)), none⟩,
    ⟨some 53, .p (.bin 3 .add (.t 52) (.c (.int .i64 ((1 : Nat) : Int)))), none⟩,
    ⟨some 6, .p (.mov (.t 53)), none⟩] [0, 6])
def c_ref9_Check_L10 : VCode := .seq (.seq (.ops [⟨some 48, .p (.mov (.t 6)), none⟩,
    ⟨some 49, .p (.mov (.t 0)), none⟩,
    ⟨some 50, .p (.lenV (.t 49)), none⟩,
    ⟨some 51, .p (.bin 3 .lss (.t 48) (.t 50)), none⟩] [0, 6, 51])
  (.cond (.t 51)
  (.skip)
  (.exit 4)))
  c_ref9_Check_k9
def c_ref9_Check_k11 : VCode := .block 4 (.loop [0, 6] c_ref9_Check_L10)
def c_ref9_Check_k12 : VCode := .seq (.ops [⟨some 2, .p (.mov (.c (.int .i64 ((0 : Nat) : Int)))), none⟩] [2])
  (.ret)
def c_ref9_Check_k13 : VCode := .seq (.seq (.ops [⟨some 6, .p (.mov (.c (.int .i64 ((0 : Nat) : Int)))), none⟩] [0, 6])
  c_ref9_Check_k11)
  c_ref9_Check_k12
def c_ref9_Check_k14 : VCode := .seq (.seq (.ops [⟨some 3, .p (.mov (.c (.int .i64 ((0 : Nat) : Int)))), none⟩] [0, 3])
  c_ref9_Check_k8)
  c_ref9_Check_k13
def c_ref9_Check_k15 : VCode := .seq (.seq (.ops [⟨some 8, .p (.mov (.t 0)), none⟩,
    ⟨some 9, .p (.lenV (.t 8)), none⟩,
    ⟨some 10, .p (.bin 3 .gtr (.t 9) (.c (.int .i64 ((2000 : Nat) : Int)))), none⟩] [0, 10])
  (.cond (.t 10)
  (.seq (.ops [⟨some 2, .p (.mov (.c (.int .i64 ((80 : Nat) : Int)))), none⟩] [2])
    (.ret))
  (.skip)))
  c_ref9_Check_k14
def c_ref9_Check : VCode := .seq (.ops [⟨some 2, .p (.mov (.c (.int .i64 ((0 : Nat) : Int)))), none⟩] [0])
  c_ref9_Check_k15
def r_ref9_Check : List VR := [.tmp 2]
theorem t_ref9_Check : Tryd.f11.body.bind (trC Tryd.prog Tryd.f11.ntmps) = some (er c_ref9_Check) := by kernel_rfl
theorem w_ref9_Check : trR Tryd.prog Tryd.f11.results.toList = some r_ref9_Check := by kernel_rfl
theorem u_ref9_Check_k1_e {P : Program} {Q : VEx → Env → List Ob → Prop} {e : Env} {H : List Ob} : vwp P c_ref9_Check_k1 Q e H = vwp P (.seq (.block 3 (.seq (.ops [⟨some 36, .p (.mov (.t 0)), none⟩,
    ⟨some 37, .p (.mov (.t 0)), none⟩,
    ⟨some 38, .p (.mov (.t 3)), none⟩,
    ⟨some 39, .p (.idxA 22 (.t 37) (.t 38)), none⟩,
    ⟨some 40, .p (.fieldA 1 20 (.t 39)), none⟩,
    ⟨some 41, .p (.load false 1 (.t 40)), none⟩,
    ⟨some 42, .p (.mov (.t 4)), none⟩,
    ⟨some 43, .p (.idxA 20 (.t 41) (.t 42)), none⟩,
    ⟨some 44, .p (.load true 20 (.t 43)), none⟩,
    ⟨some 45, .s (.call 30 [.t 36, .t 44]), none⟩,
    ⟨some 5, .p (.mov (.t 45)), none⟩] [0, 3, 4, 5])
  (.seq (.ops [⟨some 46, .p (.mov (.t 5)), none⟩,
    ⟨some 47, .p (.bin 3 .lss (.t 46) (.c (.int .i64 ((0 : Nat) : Int)))), none⟩] [0, 3, 4, 47])
  (.cond (.t 47)
  (.seq (.ops [⟨some 2, .p (.mov (.c (.int .i64 ((80 : Nat) : Int)))), none⟩] [2])
    (.ret))
  (.skip)))))
  (.ops [⟨some 34, .p (.mov (.t 4)), none⟩,
    ⟨some 35, .p (.bin 3 .add (.t 34) (.c (.int .i64 ((1 : Nat) : Int)))), none⟩,
    ⟨some 4, .p (.mov (.t 35)), none⟩] [0, 3, 4])) Q e H := by_refl rfl
theorem u_ref9_Check_L2_e {P : Program} {Q : VEx → Env → List Ob → Prop} {e : Env} {H : List Ob} : vwp P c_ref9_Check_L2 Q e H = vwp P (.seq (.seq (.ops [⟨some 26, .p (.mov (.t 4)), none⟩,
    ⟨some 27, .p (.mov (.t 0)), none⟩,
    ⟨some 28, .p (.mov (.t 3)), none⟩,
    ⟨some 29, .p (.idxA 22 (.t 27) (.t 28)), none⟩,
    ⟨some 30, .p (.fieldA 1 20 (.t 29)), none⟩,
    ⟨some 31, .p (.load false 1 (.t 30)), none⟩,
    ⟨some 32, .p (.lenV (.t 31)), none⟩,
    ⟨some 33, .p (.bin 3 .lss (.t 26) (.t 32)), none⟩] [0, 3, 4, 33])
  (.cond (.t 33)
  (.skip)
  (.exit 2)))
  c_ref9_Check_k1) Q e H := by_refl rfl
theorem u_ref9_Check_k3_e {P : Program} {Q : VEx → Env → List Ob → Prop} {e : Env} {H : List Ob} : vwp P c_ref9_Check_k3 Q e H = vwp P (.block 2 (.loop [0, 3, 4] c_ref9_Check_L2)) Q e H := by_refl rfl
theorem u_ref9_Check_k4_e {P : Program} {Q : VEx → Env → List Ob → Prop} {e : Env} {H : List Ob} : vwp P c_ref9_Check_k4 Q e H = vwp P (.seq (.ops [⟨some 4, .p (.mov (.c (.int .i64 ((0 : Nat) : Int)))), none⟩] [0, 3, 4])
  c_ref9_Check_k3) Q e H := by_refl rfl
theorem u_ref9_Check_k5_e {P : Program} {Q : VEx → Env → List Ob → Prop} {e : Env} {H : List Ob} : vwp P c_ref9_Check_k5 Q e H = vwp P (.ops [⟨some 15, .p (.mov (.t 3)), none⟩,
    ⟨some 16, .p (.bin 3 .add (.t 15) (.c (.int .i64 ((1 : Nat) : Int)))), none⟩,
    ⟨some 3, .p (.mov (.t 16)), none⟩] [0, 3]) Q e H := by_refl rfl
theorem u_ref9_Check_k6_e {P : Program} {Q : VEx → Env → List Ob → Prop} {e : Env} {H : List Ob} : vwp P c_ref9_Check_k6 Q e H = vwp P (.seq (.block 1 (.seq (.seq (.ops [⟨some 17, .p (.mov (.t 0)), none⟩,
    ⟨some 18, .p (.mov (.t 0)), none⟩,
    ⟨some 19, .p (.mov (.t 3)), none⟩,
    ⟨some 20, .p (.idxA 22 (.t 18) (.t 19)), none⟩,
    ⟨some 21, .p (.fieldA 0 0 (.t 20)), none⟩,
    ⟨some 22, .p (.load true 20 (.t 21)), none⟩,
    ⟨some 23, .s (.call 30 [.t 17, .t 22]), none⟩,
    ⟨some 24, .p (.mov (.t 3)), none⟩,
    ⟨some 25, .p (.bin 3 .neq (.t 23) (.t 24)), none⟩] [0, 3, 25])
  (.cond (.t 25)
  (.seq (.ops [⟨some 2, .p (.mov (.c (.int .i64 ((80 : Nat) : Int)))), none⟩] [2])
    (.ret))
  (.skip)))
  c_ref9_Check_k4))
  c_ref9_Check_k5) Q e H := by_refl rfl
theorem u_ref9_Check_L7_e {P : Program} {Q : VEx → Env → List Ob → Prop} {e : Env} {H : List Ob} : vwp P c_ref9_Check_L7 Q e H = vwp P (.seq (.seq (.ops [⟨some 11, .p (.mov (.t 3)), none⟩,
    ⟨some 12, .p (.mov (.t 0)), none⟩,
    ⟨some 13, .p (.lenV (.t 12)), none⟩,
    ⟨some 14, .p (.bin 3 .lss (.t 11) (.t 13)), none⟩] [0, 3, 14])
  (.cond (.t 14)
  (.skip)
  (.exit 0)))
  c_ref9_Check_k6) Q e H := by_refl rfl
theorem u_ref9_Check_k8_e {P : Program} {Q : VEx → Env → List Ob → Prop} {e : Env} {H : List Ob} : vwp P c_ref9_Check_k8 Q e H = vwp P (.block 0 (.loop [0, 3] c_ref9_Check_L7)) Q e H := by_refl rfl
theorem u_ref9_Check_k9_e {P : Program} {Q : VEx → Env → List Ob → Prop} {e : Env} {H : List Ob} : vwp P c_ref9_Check_k9 Q e H = vwp P (.seq (.block 5 (.seq (.ops [⟨some 54, .p (.mov (.t 0)), none⟩,
    ⟨some 55, .p (.mov (.t 0)), none⟩,
    ⟨some 56, .p (.mov (.t 6)), none⟩,
    ⟨some 57, .p (.idxA 22 (.t 55) (.t 56)), none⟩,
    ⟨some 58, .p (.fieldA 1 20 (.t 57)), none⟩,
    ⟨some 59, .p (.load false 1 (.t 58)), none⟩,
    ⟨some 60, .s (.call 31 [.t 54, .t 59]), none⟩,
    ⟨some 7, .p (.mov (.t 60)), none⟩] [0, 6, 7])
  (.seq (.ops [⟨some 61, .p (.mov (.t 7)), none⟩,
    ⟨some 62, .p (.mov (.t 6)), none⟩,
    ⟨some 63, .p (.idxA 1 (.t 61) (.t 62)), none⟩,
    ⟨some 64, .p (.load false 1 (.t 63)), none⟩] [0, 6, 64])
  (.cond (.t 64)
  (.seq (.ops [⟨some 2, .p (.mov (.c (.int .i64 ((80 : Nat) : Int)))), none⟩] [2])
    (.ret))
  (.skip)))))
  (.ops [⟨some 52, .p (.mov (.t 6)), none⟩,
    ⟨some 53, .p (.bin 3 .add (.t 52) (.c (.int .i64 ((1 : Nat) : Int)))), none⟩,
    ⟨some 6, .p (.mov (.t 53)), none⟩] [0, 6])) Q e H := by_refl rfl
theorem u_ref9_Check_L10_e {P : Program} {Q : VEx → Env → List Ob → Prop} {e : Env} {H : List Ob} : vwp P c_ref9_Check_L10 Q e H = vwp P (.seq (.seq (.ops [⟨some 48, .p (.mov (.t 6)), none⟩,
    ⟨some 49, .p (.mov (.t 0)), none⟩,
    ⟨some 50, .p (.lenV (.t 49)), none⟩,
    ⟨some 51, .p (.bin 3 .lss (.t 48) (.t 50)), none⟩] [0, 6, 51])
  (.cond (.t 51)
  (.skip)
  (.exit 4)))
  c_ref9_Check_k9) Q e H := by_refl rfl
theorem u_ref9_Check_k11_e {P : Program} {Q : VEx → Env → List Ob → Prop} {e : Env} {H : List Ob} : vwp P c_ref9_Check_k11 Q e H = vwp P (.block 4 (.loop [0, 6] c_ref9_Check_L10)) Q e H := by_refl rfl
theorem u_ref9_Check_k12_e {P : Program} {Q : VEx → Env → List Ob → Prop} {e : Env} {H : List Ob} : vwp P c_ref9_Check_k12 Q e H = vwp P (.seq (.ops [⟨some 2, .p (.mov (.c (.int .i64 ((0 : Nat) : Int)))), none⟩] [2])
  (.ret)) Q e H := by_refl rfl
theorem u_ref9_Check_k13_e {P : Program} {Q : VEx → Env → List Ob → Prop} {e : Env} {H : List Ob} : vwp P c_ref9_Check_k13 Q e H = vwp P (.seq (.seq (.ops [⟨some 6, .p (.mov (.c (.int .i64 ((0 : Nat) : Int)))), none⟩] [0, 6])
  c_ref9_Check_k11)
  c_ref9_Check_k12) Q e H := by_refl rfl
theorem u_ref9_Check_k14_e {P : Program} {Q : VEx → Env → List Ob → Prop} {e : Env} {H : List Ob} : vwp P c_ref9_Check_k14 Q e H = vwp P (.seq (.seq (.ops [⟨some 3, .p (.mov (.c (.int .i64 ((0 : Nat) : Int)))), none⟩] [0, 3])
  c_ref9_Check_k8)
  c_ref9_Check_k13) Q e H := by_refl rfl
theorem u_ref9_Check_k15_e {P : Program} {Q : VEx → Env → List Ob → Prop} {e : Env} {H : List Ob} : vwp P c_ref9_Check_k15 Q e H = vwp P (.seq (.seq (.ops [⟨some 8, .p (.mov (.t 0)), none⟩,
    ⟨some 9, .p (.lenV (.t 8)), none⟩,
    ⟨some 10, .p (.bin 3 .gtr (.t 9) (.c (.int .i64 ((2000 : Nat) : Int)))), none⟩] [0, 10])
  (.cond (.t 10)
  (.seq (.ops [⟨some 2, .p (.mov (.c (.int .i64 ((80 : Nat) : Int)))), none⟩] [2])
    (.ret))
  (.skip)))
  c_ref9_Check_k14) Q e H := by_refl rfl
theorem u_ref9_Check_e {P : Program} {Q : VEx → Env → List Ob → Prop} {e : Env} {H : List Ob} : vwp P c_ref9_Check Q e H = vwp P (.seq (.ops [⟨some 2, .p (.mov (.c (.int .i64 ((0 : Nat) : Int)))), none⟩] [0])
  c_ref9_Check_k15) Q e H := by_refl rfl
theorem u_ref9_Check_r {K : TV → Prop} {e : Env} {H : List Ob} : res r_ref9_Check e H K = res [.tmp 2] e H K := by_refl rfl
def u_ref9_Check := (And.intro (And.intro (And.intro (And.intro (And.intro @u_ref9_Check_k1_e @u_ref9_Check_L2_e) (And.intro @u_ref9_Check_k3_e @u_ref9_Check_k4_e)) (And.intro (And.intro @u_ref9_Check_k5_e @u_ref9_Check_k6_e) (And.intro @u_ref9_Check_L7_e @u_ref9_Check_k8_e))) (And.intro (And.intro (And.intro @u_ref9_Check_k9_e @u_ref9_Check_L10_e) (And.intro @u_ref9_Check_k11_e @u_ref9_Check_k12_e)) (And.intro (And.intro @u_ref9_Check_k13_e @u_ref9_Check_k14_e) (And.intro @u_ref9_Check_k15_e @u_ref9_Check_e)))) @u_ref9_Check_r)
theorem go_ref9_Check {args : List TV} {H : List Ob} {R : TV → List Ob → Prop} (hn : args.length ≤ 65) (h : vwp Tryd.prog c_ref9_Check (atEnd r_ref9_Check R) (argsE 0 args) H) : VCalls Tryd.prog 11 args H R := vcalls_of Tryd.func11 t_ref9_Check w_ref9_Check hn h

/-! gitlike/gitlikelaw9.GraphChecks -/
def c_law9_GraphChecks_k1 : VCode := .seq (.ops [⟨some 11, .p (.mov (.t 0)), none⟩,
    ⟨some 12, .s (.call 9 [.t 11]), none⟩,
    ⟨some 4, .p (.mov (.t 12)), none⟩] [0, 4])
  (.seq (.ops [⟨some 13, .p (.mov (.t 0)), none⟩,
    ⟨some 14, .s (.call 10 [.t 13]), none⟩,
    ⟨some 5, .p (.mov (.t 14)), none⟩] [4, 5])
  (.seq (.ops [⟨some 15, .p (.mov (.t 5)), none⟩,
    ⟨some 16, .s (.call 11 [.t 15]), none⟩,
    ⟨some 6, .p (.mov (.t 16)), none⟩] [4, 6])
  (.seq (.ops [⟨some 17, .p (.mov (.t 4)), none⟩,
    ⟨some 18, .s (.call 12 [.t 17]), none⟩,
    ⟨some 19, .p (.mov (.t 6)), none⟩,
    ⟨some 20, .p (.bin 3 .eql (.t 18) (.t 19)), none⟩,
    ⟨some 2, .p (.mov (.t 20)), none⟩] [2])
  (.ret))))
def c_law9_GraphChecks_k2 : VCode := .seq (.seq (.ops [⟨some 9, .p (.mov (.t 3)), none⟩,
    ⟨some 10, .p (.un .not (.t 9)), none⟩] [0, 10])
  (.cond (.t 10)
  (.seq (.ops [⟨some 2, .p (.mov (.c (.bool true))), none⟩] [2])
    (.ret))
  (.skip)))
  c_law9_GraphChecks_k1
def c_law9_GraphChecks_k3 : VCode := .seq (.ops [⟨some 7, .p (.mov (.t 0)), none⟩,
    ⟨some 8, .s (.call 8 [.t 7]), none⟩,
    ⟨some 3, .p (.mov (.t 8)), none⟩] [0, 3])
  c_law9_GraphChecks_k2
def c_law9_GraphChecks : VCode := .seq (.ops [⟨some 2, .p (.mov (.c (.bool false))), none⟩] [0])
  c_law9_GraphChecks_k3
def r_law9_GraphChecks : List VR := [.tmp 2]
theorem t_law9_GraphChecks : Tryd.f3.body.bind (trC Tryd.prog Tryd.f3.ntmps) = some (er c_law9_GraphChecks) := by kernel_rfl
theorem w_law9_GraphChecks : trR Tryd.prog Tryd.f3.results.toList = some r_law9_GraphChecks := by kernel_rfl
theorem u_law9_GraphChecks_k1_e {P : Program} {Q : VEx → Env → List Ob → Prop} {e : Env} {H : List Ob} : vwp P c_law9_GraphChecks_k1 Q e H = vwp P (.seq (.ops [⟨some 11, .p (.mov (.t 0)), none⟩,
    ⟨some 12, .s (.call 9 [.t 11]), none⟩,
    ⟨some 4, .p (.mov (.t 12)), none⟩] [0, 4])
  (.seq (.ops [⟨some 13, .p (.mov (.t 0)), none⟩,
    ⟨some 14, .s (.call 10 [.t 13]), none⟩,
    ⟨some 5, .p (.mov (.t 14)), none⟩] [4, 5])
  (.seq (.ops [⟨some 15, .p (.mov (.t 5)), none⟩,
    ⟨some 16, .s (.call 11 [.t 15]), none⟩,
    ⟨some 6, .p (.mov (.t 16)), none⟩] [4, 6])
  (.seq (.ops [⟨some 17, .p (.mov (.t 4)), none⟩,
    ⟨some 18, .s (.call 12 [.t 17]), none⟩,
    ⟨some 19, .p (.mov (.t 6)), none⟩,
    ⟨some 20, .p (.bin 3 .eql (.t 18) (.t 19)), none⟩,
    ⟨some 2, .p (.mov (.t 20)), none⟩] [2])
  (.ret))))) Q e H := by_refl rfl
theorem u_law9_GraphChecks_k2_e {P : Program} {Q : VEx → Env → List Ob → Prop} {e : Env} {H : List Ob} : vwp P c_law9_GraphChecks_k2 Q e H = vwp P (.seq (.seq (.ops [⟨some 9, .p (.mov (.t 3)), none⟩,
    ⟨some 10, .p (.un .not (.t 9)), none⟩] [0, 10])
  (.cond (.t 10)
  (.seq (.ops [⟨some 2, .p (.mov (.c (.bool true))), none⟩] [2])
    (.ret))
  (.skip)))
  c_law9_GraphChecks_k1) Q e H := by_refl rfl
theorem u_law9_GraphChecks_k3_e {P : Program} {Q : VEx → Env → List Ob → Prop} {e : Env} {H : List Ob} : vwp P c_law9_GraphChecks_k3 Q e H = vwp P (.seq (.ops [⟨some 7, .p (.mov (.t 0)), none⟩,
    ⟨some 8, .s (.call 8 [.t 7]), none⟩,
    ⟨some 3, .p (.mov (.t 8)), none⟩] [0, 3])
  c_law9_GraphChecks_k2) Q e H := by_refl rfl
theorem u_law9_GraphChecks_e {P : Program} {Q : VEx → Env → List Ob → Prop} {e : Env} {H : List Ob} : vwp P c_law9_GraphChecks Q e H = vwp P (.seq (.ops [⟨some 2, .p (.mov (.c (.bool false))), none⟩] [0])
  c_law9_GraphChecks_k3) Q e H := by_refl rfl
theorem u_law9_GraphChecks_r {K : TV → Prop} {e : Env} {H : List Ob} : res r_law9_GraphChecks e H K = res [.tmp 2] e H K := by_refl rfl
def u_law9_GraphChecks := (And.intro (And.intro (And.intro @u_law9_GraphChecks_k1_e @u_law9_GraphChecks_k2_e) (And.intro @u_law9_GraphChecks_k3_e @u_law9_GraphChecks_e)) @u_law9_GraphChecks_r)
theorem go_law9_GraphChecks {args : List TV} {H : List Ob} {R : TV → List Ob → Prop} (hn : args.length ≤ 21) (h : vwp Tryd.prog c_law9_GraphChecks (atEnd r_law9_GraphChecks R) (argsE 0 args) H) : VCalls Tryd.prog 3 args H R := vcalls_of Tryd.func3 t_law9_GraphChecks w_law9_GraphChecks hn h

/-! gitlike/gitlikelaw9.few -/
def c_law9_few_L1 : VCode := .seq (.seq (.ops [⟨some 7, .p (.mov (.t 3)), none⟩,
    ⟨some 8, .p (.mov (.t 0)), none⟩,
    ⟨some 9, .p (.lenV (.t 8)), none⟩,
    ⟨some 10, .p (.bin 3 .lss (.t 7) (.t 9)), none⟩] [0, 3, 10])
  (.cond (.t 10)
  (.skip)
  (.exit 0)))
  (.seq (.block 1 (.seq (.ops [⟨some 13, .p (.mov (.t 0)), none⟩,
    ⟨some 14, .p (.mov (.t 3)), none⟩,
    ⟨some 15, .p (.idxA 22 (.t 13) (.t 14)), none⟩,
    ⟨some 16, .p (.fieldA 1 20 (.t 15)), none⟩,
    ⟨some 17, .p (.load false 1 (.t 16)), none⟩,
    ⟨some 18, .p (.lenV (.t 17)), none⟩,
    ⟨some 19, .p (.bin 3 .gtr (.t 18) (.c (.int .i64 ((40 : Nat) : Int)))), none⟩] [0, 3, 19])
  (.cond (.t 19)
  (.seq (.ops [⟨some 2, .p (.mov (.c (.bool false))), none⟩] [2])
    (.ret))
  (.skip))))
  (.ops [⟨some 11, .p (.mov (.t 3)), none⟩,
    ⟨some 12, .p (.bin 3 .add (.t 11) (.c (.int .i64 ((1 : Nat) : Int)))), none⟩,
    ⟨some 3, .p (.mov (.t 12)), none⟩] [0, 3]))
def c_law9_few_k2 : VCode := .block 0 (.loop [0, 3] c_law9_few_L1)
def c_law9_few_k3 : VCode := .seq (.ops [⟨some 2, .p (.mov (.c (.bool true))), none⟩] [2])
  (.ret)
def c_law9_few_k4 : VCode := .seq (.seq (.ops [⟨some 3, .p (.mov (.c (.int .i64 ((0 : Nat) : Int)))), none⟩] [0, 3])
  c_law9_few_k2)
  c_law9_few_k3
def c_law9_few_k5 : VCode := .seq (.seq (.ops [⟨some 4, .p (.mov (.t 0)), none⟩,
    ⟨some 5, .p (.lenV (.t 4)), none⟩,
    ⟨some 6, .p (.bin 3 .gtr (.t 5) (.c (.int .i64 ((40 : Nat) : Int)))), none⟩] [0, 6])
  (.cond (.t 6)
  (.seq (.ops [⟨some 2, .p (.mov (.c (.bool false))), none⟩] [2])
    (.ret))
  (.skip)))
  c_law9_few_k4
def c_law9_few : VCode := .seq (.ops [⟨some 2, .p (.mov (.c (.bool false))), none⟩] [0])
  c_law9_few_k5
def r_law9_few : List VR := [.tmp 2]
theorem t_law9_few : Tryd.f8.body.bind (trC Tryd.prog Tryd.f8.ntmps) = some (er c_law9_few) := by kernel_rfl
theorem w_law9_few : trR Tryd.prog Tryd.f8.results.toList = some r_law9_few := by kernel_rfl
theorem u_law9_few_L1_e {P : Program} {Q : VEx → Env → List Ob → Prop} {e : Env} {H : List Ob} : vwp P c_law9_few_L1 Q e H = vwp P (.seq (.seq (.ops [⟨some 7, .p (.mov (.t 3)), none⟩,
    ⟨some 8, .p (.mov (.t 0)), none⟩,
    ⟨some 9, .p (.lenV (.t 8)), none⟩,
    ⟨some 10, .p (.bin 3 .lss (.t 7) (.t 9)), none⟩] [0, 3, 10])
  (.cond (.t 10)
  (.skip)
  (.exit 0)))
  (.seq (.block 1 (.seq (.ops [⟨some 13, .p (.mov (.t 0)), none⟩,
    ⟨some 14, .p (.mov (.t 3)), none⟩,
    ⟨some 15, .p (.idxA 22 (.t 13) (.t 14)), none⟩,
    ⟨some 16, .p (.fieldA 1 20 (.t 15)), none⟩,
    ⟨some 17, .p (.load false 1 (.t 16)), none⟩,
    ⟨some 18, .p (.lenV (.t 17)), none⟩,
    ⟨some 19, .p (.bin 3 .gtr (.t 18) (.c (.int .i64 ((40 : Nat) : Int)))), none⟩] [0, 3, 19])
  (.cond (.t 19)
  (.seq (.ops [⟨some 2, .p (.mov (.c (.bool false))), none⟩] [2])
    (.ret))
  (.skip))))
  (.ops [⟨some 11, .p (.mov (.t 3)), none⟩,
    ⟨some 12, .p (.bin 3 .add (.t 11) (.c (.int .i64 ((1 : Nat) : Int)))), none⟩,
    ⟨some 3, .p (.mov (.t 12)), none⟩] [0, 3]))) Q e H := by_refl rfl
theorem u_law9_few_k2_e {P : Program} {Q : VEx → Env → List Ob → Prop} {e : Env} {H : List Ob} : vwp P c_law9_few_k2 Q e H = vwp P (.block 0 (.loop [0, 3] c_law9_few_L1)) Q e H := by_refl rfl
theorem u_law9_few_k3_e {P : Program} {Q : VEx → Env → List Ob → Prop} {e : Env} {H : List Ob} : vwp P c_law9_few_k3 Q e H = vwp P (.seq (.ops [⟨some 2, .p (.mov (.c (.bool true))), none⟩] [2])
  (.ret)) Q e H := by_refl rfl
theorem u_law9_few_k4_e {P : Program} {Q : VEx → Env → List Ob → Prop} {e : Env} {H : List Ob} : vwp P c_law9_few_k4 Q e H = vwp P (.seq (.seq (.ops [⟨some 3, .p (.mov (.c (.int .i64 ((0 : Nat) : Int)))), none⟩] [0, 3])
  c_law9_few_k2)
  c_law9_few_k3) Q e H := by_refl rfl
theorem u_law9_few_k5_e {P : Program} {Q : VEx → Env → List Ob → Prop} {e : Env} {H : List Ob} : vwp P c_law9_few_k5 Q e H = vwp P (.seq (.seq (.ops [⟨some 4, .p (.mov (.t 0)), none⟩,
    ⟨some 5, .p (.lenV (.t 4)), none⟩,
    ⟨some 6, .p (.bin 3 .gtr (.t 5) (.c (.int .i64 ((40 : Nat) : Int)))), none⟩] [0, 6])
  (.cond (.t 6)
  (.seq (.ops [⟨some 2, .p (.mov (.c (.bool false))), none⟩] [2])
    (.ret))
  (.skip)))
  c_law9_few_k4) Q e H := by_refl rfl
theorem u_law9_few_e {P : Program} {Q : VEx → Env → List Ob → Prop} {e : Env} {H : List Ob} : vwp P c_law9_few Q e H = vwp P (.seq (.ops [⟨some 2, .p (.mov (.c (.bool false))), none⟩] [0])
  c_law9_few_k5) Q e H := by_refl rfl
theorem u_law9_few_r {K : TV → Prop} {e : Env} {H : List Ob} : res r_law9_few e H K = res [.tmp 2] e H K := by_refl rfl
def u_law9_few := (And.intro (And.intro (And.intro @u_law9_few_L1_e @u_law9_few_k2_e) (And.intro @u_law9_few_k3_e @u_law9_few_k4_e)) (And.intro (And.intro @u_law9_few_k5_e @u_law9_few_e) @u_law9_few_r))
theorem go_law9_few {args : List TV} {H : List Ob} {R : TV → List Ob → Prop} (hn : args.length ≤ 20) (h : vwp Tryd.prog c_law9_few (atEnd r_law9_few R) (argsE 0 args) H) : VCalls Tryd.prog 8 args H R := vcalls_of Tryd.func8 t_law9_few w_law9_few hn h

/-! gitlike/gitlikelaw9.theirs -/
def c_law9_theirs_k1 : VCode := .draw 12 [⟨some 18, .p (.mov (.t 3)), none⟩,
    ⟨some 19, .p (.mov (.t 0)), none⟩,
    ⟨some 20, .p (.mov (.t 4)), none⟩,
    ⟨some 21, .p (.idxA 22 (.t 19) (.t 20)), none⟩,
    ⟨some 22, .p (.fieldA 0 0 (.t 21)), none⟩,
    ⟨some 23, .p (.load true 20 (.t 22)), none⟩,
    ⟨some 24, .p (.mov (.t 5)), none⟩,
    ⟨some 25, .p (.mov (.t 0)), none⟩,
    ⟨some 26, .p (.mov (.t 4)), none⟩,
    ⟨some 27, .p (.idxA 22 (.t 25) (.t 26)), none⟩,
    ⟨some 28, .p (.fieldA 2 21 (.t 27)), none⟩,
    ⟨some 29, .p (.load false 1 (.t 28)), none⟩,
    ⟨some 30, .p (.build [.arr 20 1 [.val (.int .u8 ((0 : Nat) : Int)), .val (.int .u8 ((0 : Nat) : Int)), .val (.int .u8 ((0 : Nat) : Int)), .val (.int .u8 ((0 : Nat) : Int)), .val (.int .u8 ((0 : Nat) : Int)), .val (.int .u8 ((0 : Nat) : Int)), .val (.int .u8 ((0 : Nat) : Int)), .val (.int .u8 ((0 : Nat) : Int)), .val (.int .u8 ((0 : Nat) : Int)), .val (.int .u8 ((0 : Nat) : Int)), .val (.int .u8 ((0 : Nat) : Int)), .val (.int .u8 ((0 : Nat) : Int)), .val (.int .u8 ((0 : Nat) : Int)), .val (.int .u8 ((0 : Nat) : Int)), .val (.int .u8 ((0 : Nat) : Int)), .val (.int .u8 ((0 : Nat) : Int)), .val (.int .u8 ((0 : Nat) : Int)), .val (.int .u8 ((0 : Nat) : Int)), .val (.int .u8 ((0 : Nat) : Int)), .val (.int .u8 ((0 : Nat) : Int))], .val (.slice none 0 0), .val (.int .i64 ((0 : Nat) : Int))] [20, 1, 1] [⟨0, .t 23⟩, ⟨1, .t 24⟩, ⟨2, .t 29⟩]), none⟩,
    ⟨some 31, .s (.bslice 22 1 (.agg [.arr 20 1 [.val (.int .u8 ((0 : Nat) : Int)), .val (.int .u8 ((0 : Nat) : Int)), .val (.int .u8 ((0 : Nat) : Int)), .val (.int .u8 ((0 : Nat) : Int)), .val (.int .u8 ((0 : Nat) : Int)), .val (.int .u8 ((0 : Nat) : Int)), .val (.int .u8 ((0 : Nat) : Int)), .val (.int .u8 ((0 : Nat) : Int)), .val (.int .u8 ((0 : Nat) : Int)), .val (.int .u8 ((0 : Nat) : Int)), .val (.int .u8 ((0 : Nat) : Int)), .val (.int .u8 ((0 : Nat) : Int)), .val (.int .u8 ((0 : Nat) : Int)), .val (.int .u8 ((0 : Nat) : Int)), .val (.int .u8 ((0 : Nat) : Int)), .val (.int .u8 ((0 : Nat) : Int)), .val (.int .u8 ((0 : Nat) : Int)), .val (.int .u8 ((0 : Nat) : Int)), .val (.int .u8 ((0 : Nat) : Int)), .val (.int .u8 ((0 : Nat) : Int))], .val (.slice none 0 0), .val (.int .i64 ((0 : Nat) : Int))]) [⟨0, .t 30⟩]), none⟩,
    ⟨some 32, .s (.app 22 56 (.t 18) (.t 31)), none⟩,
    ⟨some 3, .p (.mov (.t 32)), none⟩] [0, 3, 4]
def c_law9_theirs_k2 : VCode := .seq (.block 1 (.seq (.ops [⟨some 12, .p (.mov (.t 0)), none⟩,
    ⟨some 13, .p (.mov (.t 4)), none⟩,
    ⟨some 14, .p (.idxA 22 (.t 12) (.t 13)), none⟩,
    ⟨some 15, .p (.fieldA 1 20 (.t 14)), none⟩,
    ⟨some 16, .p (.load false 1 (.t 15)), none⟩,
    ⟨some 17, .s (.call 29 [.t 16]), none⟩,
    ⟨some 5, .p (.mov (.t 17)), none⟩] [0, 3, 4, 5])
  c_law9_theirs_k1))
  (.ops [⟨some 10, .p (.mov (.t 4)), none⟩,
    ⟨some 11, .p (.bin 3 .add (.t 10) (.c (.int .i64 ((1 : Nat) : Int)))), none⟩,
    ⟨some 4, .p (.mov (.t 11)), none⟩] [0, 3, 4])
def c_law9_theirs_L3 : VCode := .seq (.seq (.ops [⟨some 6, .p (.mov (.t 4)), none⟩,
    ⟨some 7, .p (.mov (.t 0)), none⟩,
    ⟨some 8, .p (.lenV (.t 7)), none⟩,
    ⟨some 9, .p (.bin 3 .lss (.t 6) (.t 8)), none⟩] [0, 3, 4, 9])
  (.cond (.t 9)
  (.skip)
  (.exit 0)))
  c_law9_theirs_k2
def c_law9_theirs_k4 : VCode := .block 0 (.own 3 22 (.loop [0, 3, 4] c_law9_theirs_L3))
def c_law9_theirs_k5 : VCode := .seq (.ops [⟨some 33, .p (.mov (.t 3)), none⟩,
    ⟨some 2, .p (.mov (.t 33)), none⟩] [2])
  (.ret)
def c_law9_theirs_k6 : VCode := .seq (.seq (.ops [⟨some 4, .p (.mov (.c (.int .i64 ((0 : Nat) : Int)))), none⟩] [0, 3, 4])
  c_law9_theirs_k4)
  c_law9_theirs_k5
def c_law9_theirs_k7 : VCode := .seq (.ops [⟨some 3, .p (.mov (.c (.slice none 0 0))), none⟩] [0, 3])
  c_law9_theirs_k6
def c_law9_theirs : VCode := .seq (.ops [⟨some 2, .p (.mov (.c (.slice none 0 0))), none⟩] [0])
  c_law9_theirs_k7
def r_law9_theirs : List VR := [.tmp 2]
theorem t_law9_theirs : Tryd.f10.body.bind (trC Tryd.prog Tryd.f10.ntmps) = some (er c_law9_theirs) := by kernel_rfl
theorem w_law9_theirs : trR Tryd.prog Tryd.f10.results.toList = some r_law9_theirs := by kernel_rfl
theorem u_law9_theirs_k1_e {P : Program} {Q : VEx → Env → List Ob → Prop} {e : Env} {H : List Ob} : vwp P c_law9_theirs_k1 Q e H = vwp P (.draw 12 [⟨some 18, .p (.mov (.t 3)), none⟩,
    ⟨some 19, .p (.mov (.t 0)), none⟩,
    ⟨some 20, .p (.mov (.t 4)), none⟩,
    ⟨some 21, .p (.idxA 22 (.t 19) (.t 20)), none⟩,
    ⟨some 22, .p (.fieldA 0 0 (.t 21)), none⟩,
    ⟨some 23, .p (.load true 20 (.t 22)), none⟩,
    ⟨some 24, .p (.mov (.t 5)), none⟩,
    ⟨some 25, .p (.mov (.t 0)), none⟩,
    ⟨some 26, .p (.mov (.t 4)), none⟩,
    ⟨some 27, .p (.idxA 22 (.t 25) (.t 26)), none⟩,
    ⟨some 28, .p (.fieldA 2 21 (.t 27)), none⟩,
    ⟨some 29, .p (.load false 1 (.t 28)), none⟩,
    ⟨some 30, .p (.build [.arr 20 1 [.val (.int .u8 ((0 : Nat) : Int)), .val (.int .u8 ((0 : Nat) : Int)), .val (.int .u8 ((0 : Nat) : Int)), .val (.int .u8 ((0 : Nat) : Int)), .val (.int .u8 ((0 : Nat) : Int)), .val (.int .u8 ((0 : Nat) : Int)), .val (.int .u8 ((0 : Nat) : Int)), .val (.int .u8 ((0 : Nat) : Int)), .val (.int .u8 ((0 : Nat) : Int)), .val (.int .u8 ((0 : Nat) : Int)), .val (.int .u8 ((0 : Nat) : Int)), .val (.int .u8 ((0 : Nat) : Int)), .val (.int .u8 ((0 : Nat) : Int)), .val (.int .u8 ((0 : Nat) : Int)), .val (.int .u8 ((0 : Nat) : Int)), .val (.int .u8 ((0 : Nat) : Int)), .val (.int .u8 ((0 : Nat) : Int)), .val (.int .u8 ((0 : Nat) : Int)), .val (.int .u8 ((0 : Nat) : Int)), .val (.int .u8 ((0 : Nat) : Int))], .val (.slice none 0 0), .val (.int .i64 ((0 : Nat) : Int))] [20, 1, 1] [⟨0, .t 23⟩, ⟨1, .t 24⟩, ⟨2, .t 29⟩]), none⟩,
    ⟨some 31, .s (.bslice 22 1 (.agg [.arr 20 1 [.val (.int .u8 ((0 : Nat) : Int)), .val (.int .u8 ((0 : Nat) : Int)), .val (.int .u8 ((0 : Nat) : Int)), .val (.int .u8 ((0 : Nat) : Int)), .val (.int .u8 ((0 : Nat) : Int)), .val (.int .u8 ((0 : Nat) : Int)), .val (.int .u8 ((0 : Nat) : Int)), .val (.int .u8 ((0 : Nat) : Int)), .val (.int .u8 ((0 : Nat) : Int)), .val (.int .u8 ((0 : Nat) : Int)), .val (.int .u8 ((0 : Nat) : Int)), .val (.int .u8 ((0 : Nat) : Int)), .val (.int .u8 ((0 : Nat) : Int)), .val (.int .u8 ((0 : Nat) : Int)), .val (.int .u8 ((0 : Nat) : Int)), .val (.int .u8 ((0 : Nat) : Int)), .val (.int .u8 ((0 : Nat) : Int)), .val (.int .u8 ((0 : Nat) : Int)), .val (.int .u8 ((0 : Nat) : Int)), .val (.int .u8 ((0 : Nat) : Int))], .val (.slice none 0 0), .val (.int .i64 ((0 : Nat) : Int))]) [⟨0, .t 30⟩]), none⟩,
    ⟨some 32, .s (.app 22 56 (.t 18) (.t 31)), none⟩,
    ⟨some 3, .p (.mov (.t 32)), none⟩] [0, 3, 4]) Q e H := by_refl rfl
theorem u_law9_theirs_k2_e {P : Program} {Q : VEx → Env → List Ob → Prop} {e : Env} {H : List Ob} : vwp P c_law9_theirs_k2 Q e H = vwp P (.seq (.block 1 (.seq (.ops [⟨some 12, .p (.mov (.t 0)), none⟩,
    ⟨some 13, .p (.mov (.t 4)), none⟩,
    ⟨some 14, .p (.idxA 22 (.t 12) (.t 13)), none⟩,
    ⟨some 15, .p (.fieldA 1 20 (.t 14)), none⟩,
    ⟨some 16, .p (.load false 1 (.t 15)), none⟩,
    ⟨some 17, .s (.call 29 [.t 16]), none⟩,
    ⟨some 5, .p (.mov (.t 17)), none⟩] [0, 3, 4, 5])
  c_law9_theirs_k1))
  (.ops [⟨some 10, .p (.mov (.t 4)), none⟩,
    ⟨some 11, .p (.bin 3 .add (.t 10) (.c (.int .i64 ((1 : Nat) : Int)))), none⟩,
    ⟨some 4, .p (.mov (.t 11)), none⟩] [0, 3, 4])) Q e H := by_refl rfl
theorem u_law9_theirs_L3_e {P : Program} {Q : VEx → Env → List Ob → Prop} {e : Env} {H : List Ob} : vwp P c_law9_theirs_L3 Q e H = vwp P (.seq (.seq (.ops [⟨some 6, .p (.mov (.t 4)), none⟩,
    ⟨some 7, .p (.mov (.t 0)), none⟩,
    ⟨some 8, .p (.lenV (.t 7)), none⟩,
    ⟨some 9, .p (.bin 3 .lss (.t 6) (.t 8)), none⟩] [0, 3, 4, 9])
  (.cond (.t 9)
  (.skip)
  (.exit 0)))
  c_law9_theirs_k2) Q e H := by_refl rfl
theorem u_law9_theirs_k4_e {P : Program} {Q : VEx → Env → List Ob → Prop} {e : Env} {H : List Ob} : vwp P c_law9_theirs_k4 Q e H = vwp P (.block 0 (.own 3 22 (.loop [0, 3, 4] c_law9_theirs_L3))) Q e H := by_refl rfl
theorem u_law9_theirs_k5_e {P : Program} {Q : VEx → Env → List Ob → Prop} {e : Env} {H : List Ob} : vwp P c_law9_theirs_k5 Q e H = vwp P (.seq (.ops [⟨some 33, .p (.mov (.t 3)), none⟩,
    ⟨some 2, .p (.mov (.t 33)), none⟩] [2])
  (.ret)) Q e H := by_refl rfl
theorem u_law9_theirs_k6_e {P : Program} {Q : VEx → Env → List Ob → Prop} {e : Env} {H : List Ob} : vwp P c_law9_theirs_k6 Q e H = vwp P (.seq (.seq (.ops [⟨some 4, .p (.mov (.c (.int .i64 ((0 : Nat) : Int)))), none⟩] [0, 3, 4])
  c_law9_theirs_k4)
  c_law9_theirs_k5) Q e H := by_refl rfl
theorem u_law9_theirs_k7_e {P : Program} {Q : VEx → Env → List Ob → Prop} {e : Env} {H : List Ob} : vwp P c_law9_theirs_k7 Q e H = vwp P (.seq (.ops [⟨some 3, .p (.mov (.c (.slice none 0 0))), none⟩] [0, 3])
  c_law9_theirs_k6) Q e H := by_refl rfl
theorem u_law9_theirs_e {P : Program} {Q : VEx → Env → List Ob → Prop} {e : Env} {H : List Ob} : vwp P c_law9_theirs Q e H = vwp P (.seq (.ops [⟨some 2, .p (.mov (.c (.slice none 0 0))), none⟩] [0])
  c_law9_theirs_k7) Q e H := by_refl rfl
theorem u_law9_theirs_r {K : TV → Prop} {e : Env} {H : List Ob} : res r_law9_theirs e H K = res [.tmp 2] e H K := by_refl rfl
def u_law9_theirs := (And.intro (And.intro (And.intro (And.intro @u_law9_theirs_k1_e @u_law9_theirs_k2_e) (And.intro @u_law9_theirs_L3_e @u_law9_theirs_k4_e)) (And.intro (And.intro @u_law9_theirs_k5_e @u_law9_theirs_k6_e) (And.intro @u_law9_theirs_k7_e @u_law9_theirs_e))) @u_law9_theirs_r)
theorem go_law9_theirs {args : List TV} {H : List Ob} {R : TV → List Ob → Prop} (hn : args.length ≤ 34) (h : vwp Tryd.prog c_law9_theirs (atEnd r_law9_theirs R) (argsE 0 args) H) : VCalls Tryd.prog 10 args H R := vcalls_of Tryd.func10 t_law9_theirs w_law9_theirs hn h

/-! gitlike/gitlikelaw9.plain -/
def c_law9_plain_L1 : VCode := .seq (.seq (.ops [⟨some 5, .p (.mov (.t 4)), none⟩,
    ⟨some 6, .p (.mov (.t 0)), none⟩,
    ⟨some 7, .p (.lenV (.t 6)), none⟩,
    ⟨some 8, .p (.bin 3 .lss (.t 5) (.t 7)), none⟩] [0, 3, 4, 8])
  (.cond (.t 8)
  (.skip)
  (.exit 0)))
  (.seq (.block 1 (.ops [⟨some 11, .p (.mov (.t 3)), none⟩,
    ⟨some 12, .p (.mov (.t 0)), none⟩,
    ⟨some 13, .p (.mov (.t 4)), none⟩,
    ⟨some 14, .p (.idxA 20 (.t 12) (.t 13)), none⟩,
    ⟨some 15, .p (.load true 20 (.t 14)), none⟩,
    ⟨some 16, .s (.bslice 20 1 (.arr 20 1 [.val (.int .u8 ((0 : Nat) : Int)), .val (.int .u8 ((0 : Nat) : Int)), .val (.int .u8 ((0 : Nat) : Int)), .val (.int .u8 ((0 : Nat) : Int)), .val (.int .u8 ((0 : Nat) : Int)), .val (.int .u8 ((0 : Nat) : Int)), .val (.int .u8 ((0 : Nat) : Int)), .val (.int .u8 ((0 : Nat) : Int)), .val (.int .u8 ((0 : Nat) : Int)), .val (.int .u8 ((0 : Nat) : Int)), .val (.int .u8 ((0 : Nat) : Int)), .val (.int .u8 ((0 : Nat) : Int)), .val (.int .u8 ((0 : Nat) : Int)), .val (.int .u8 ((0 : Nat) : Int)), .val (.int .u8 ((0 : Nat) : Int)), .val (.int .u8 ((0 : Nat) : Int)), .val (.int .u8 ((0 : Nat) : Int)), .val (.int .u8 ((0 : Nat) : Int)), .val (.int .u8 ((0 : Nat) : Int)), .val (.int .u8 ((0 : Nat) : Int))]) [⟨0, .t 15⟩]), none⟩,
    ⟨some 17, .s (.app 20 20 (.t 11) (.t 16)), none⟩,
    ⟨some 3, .p (.mov (.t 17)), none⟩] [0, 3, 4]))
  (.ops [⟨some 9, .p (.mov (.t 4)), none⟩,
    ⟨some 10, .p (.bin 3 .add (.t 9) (.c (.int .i64 ((1 : Nat) : Int)))), none⟩,
    ⟨some 4, .p (.mov (.t 10)), none⟩] [0, 3, 4]))
def c_law9_plain_k2 : VCode := .block 0 (.own 3 20 (.loop [0, 3, 4] c_law9_plain_L1))
def c_law9_plain_k3 : VCode := .seq (.ops [⟨some 18, .p (.mov (.t 3)), none⟩,
    ⟨some 2, .p (.mov (.t 18)), none⟩] [2])
  (.ret)
def c_law9_plain_k4 : VCode := .seq (.seq (.ops [⟨some 4, .p (.mov (.c (.int .i64 ((0 : Nat) : Int)))), none⟩] [0, 3, 4])
  c_law9_plain_k2)
  c_law9_plain_k3
def c_law9_plain_k5 : VCode := .seq (.ops [⟨some 3, .p (.mov (.c (.slice none 0 0))), none⟩] [0, 3])
  c_law9_plain_k4
def c_law9_plain : VCode := .seq (.ops [⟨some 2, .p (.mov (.c (.slice none 0 0))), none⟩] [0])
  c_law9_plain_k5
def r_law9_plain : List VR := [.tmp 2]
theorem t_law9_plain : Tryd.f29.body.bind (trC Tryd.prog Tryd.f29.ntmps) = some (er c_law9_plain) := by kernel_rfl
theorem w_law9_plain : trR Tryd.prog Tryd.f29.results.toList = some r_law9_plain := by kernel_rfl
theorem u_law9_plain_L1_e {P : Program} {Q : VEx → Env → List Ob → Prop} {e : Env} {H : List Ob} : vwp P c_law9_plain_L1 Q e H = vwp P (.seq (.seq (.ops [⟨some 5, .p (.mov (.t 4)), none⟩,
    ⟨some 6, .p (.mov (.t 0)), none⟩,
    ⟨some 7, .p (.lenV (.t 6)), none⟩,
    ⟨some 8, .p (.bin 3 .lss (.t 5) (.t 7)), none⟩] [0, 3, 4, 8])
  (.cond (.t 8)
  (.skip)
  (.exit 0)))
  (.seq (.block 1 (.ops [⟨some 11, .p (.mov (.t 3)), none⟩,
    ⟨some 12, .p (.mov (.t 0)), none⟩,
    ⟨some 13, .p (.mov (.t 4)), none⟩,
    ⟨some 14, .p (.idxA 20 (.t 12) (.t 13)), none⟩,
    ⟨some 15, .p (.load true 20 (.t 14)), none⟩,
    ⟨some 16, .s (.bslice 20 1 (.arr 20 1 [.val (.int .u8 ((0 : Nat) : Int)), .val (.int .u8 ((0 : Nat) : Int)), .val (.int .u8 ((0 : Nat) : Int)), .val (.int .u8 ((0 : Nat) : Int)), .val (.int .u8 ((0 : Nat) : Int)), .val (.int .u8 ((0 : Nat) : Int)), .val (.int .u8 ((0 : Nat) : Int)), .val (.int .u8 ((0 : Nat) : Int)), .val (.int .u8 ((0 : Nat) : Int)), .val (.int .u8 ((0 : Nat) : Int)), .val (.int .u8 ((0 : Nat) : Int)), .val (.int .u8 ((0 : Nat) : Int)), .val (.int .u8 ((0 : Nat) : Int)), .val (.int .u8 ((0 : Nat) : Int)), .val (.int .u8 ((0 : Nat) : Int)), .val (.int .u8 ((0 : Nat) : Int)), .val (.int .u8 ((0 : Nat) : Int)), .val (.int .u8 ((0 : Nat) : Int)), .val (.int .u8 ((0 : Nat) : Int)), .val (.int .u8 ((0 : Nat) : Int))]) [⟨0, .t 15⟩]), none⟩,
    ⟨some 17, .s (.app 20 20 (.t 11) (.t 16)), none⟩,
    ⟨some 3, .p (.mov (.t 17)), none⟩] [0, 3, 4]))
  (.ops [⟨some 9, .p (.mov (.t 4)), none⟩,
    ⟨some 10, .p (.bin 3 .add (.t 9) (.c (.int .i64 ((1 : Nat) : Int)))), none⟩,
    ⟨some 4, .p (.mov (.t 10)), none⟩] [0, 3, 4]))) Q e H := by_refl rfl
theorem u_law9_plain_k2_e {P : Program} {Q : VEx → Env → List Ob → Prop} {e : Env} {H : List Ob} : vwp P c_law9_plain_k2 Q e H = vwp P (.block 0 (.own 3 20 (.loop [0, 3, 4] c_law9_plain_L1))) Q e H := by_refl rfl
theorem u_law9_plain_k3_e {P : Program} {Q : VEx → Env → List Ob → Prop} {e : Env} {H : List Ob} : vwp P c_law9_plain_k3 Q e H = vwp P (.seq (.ops [⟨some 18, .p (.mov (.t 3)), none⟩,
    ⟨some 2, .p (.mov (.t 18)), none⟩] [2])
  (.ret)) Q e H := by_refl rfl
theorem u_law9_plain_k4_e {P : Program} {Q : VEx → Env → List Ob → Prop} {e : Env} {H : List Ob} : vwp P c_law9_plain_k4 Q e H = vwp P (.seq (.seq (.ops [⟨some 4, .p (.mov (.c (.int .i64 ((0 : Nat) : Int)))), none⟩] [0, 3, 4])
  c_law9_plain_k2)
  c_law9_plain_k3) Q e H := by_refl rfl
theorem u_law9_plain_k5_e {P : Program} {Q : VEx → Env → List Ob → Prop} {e : Env} {H : List Ob} : vwp P c_law9_plain_k5 Q e H = vwp P (.seq (.ops [⟨some 3, .p (.mov (.c (.slice none 0 0))), none⟩] [0, 3])
  c_law9_plain_k4) Q e H := by_refl rfl
theorem u_law9_plain_e {P : Program} {Q : VEx → Env → List Ob → Prop} {e : Env} {H : List Ob} : vwp P c_law9_plain Q e H = vwp P (.seq (.ops [⟨some 2, .p (.mov (.c (.slice none 0 0))), none⟩] [0])
  c_law9_plain_k5) Q e H := by_refl rfl
theorem u_law9_plain_r {K : TV → Prop} {e : Env} {H : List Ob} : res r_law9_plain e H K = res [.tmp 2] e H K := by_refl rfl
def u_law9_plain := (And.intro (And.intro (And.intro @u_law9_plain_L1_e @u_law9_plain_k2_e) (And.intro @u_law9_plain_k3_e @u_law9_plain_k4_e)) (And.intro (And.intro @u_law9_plain_k5_e @u_law9_plain_e) @u_law9_plain_r))
theorem go_law9_plain {args : List TV} {H : List Ob} {R : TV → List Ob → Prop} (hn : args.length ≤ 19) (h : vwp Tryd.prog c_law9_plain (atEnd r_law9_plain R) (argsE 0 args) H) : VCalls Tryd.prog 29 args H R := vcalls_of Tryd.func29 t_law9_plain w_law9_plain hn h

end Go.Proofs.YtknphdcjopaaoaaDoor
