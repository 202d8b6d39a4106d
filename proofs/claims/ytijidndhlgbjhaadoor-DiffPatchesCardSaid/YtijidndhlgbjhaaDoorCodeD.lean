/- The code of some functions, as the machine of values has it: printed by vm.py out of the program; each is the program's own (t_..: by the kernel). -/
import Derived.Test.YtijidndhlgbjhaaDoorBaseC
import Derived.Test.YtijidndhlgbjhaaDoorProg
import Derived.KernelRfl
namespace Go.Proofs.YtijidndhlgbjhaaDoor
variable [Globs]
set_option linter.unusedSectionVars false
set_option linter.unusedVariables false
set_option linter.defProp false
set_option maxRecDepth 100000

/-! gitlike/api.Tell -/
def c_api_Tell : VCode := .seq (.ops [⟨some 2, .p (.mov (.c (.int .i64 0))), none⟩] [0])
  (.seq (.ops [⟨some 3, .s (.alloc (.val (.int .i64 0))), none⟩] [0, 3])
  (.seq (.block 0 (.seq (.ops [⟨some 5, .p (.mov (.t 0)), none⟩,
    ⟨some 6, .p (.eqN 1 (.t 5) (.c .nilIface) false), none⟩,
    ⟨some 4, .p (.mov (.t 6)), none⟩] [0, 3, 4])
  (.cond (.t 4)
  (.seq (.ops [⟨some 2, .p (.mov (.c (.int .i64 0))), none⟩] [2])
    (.ret))
  (.seq (.ops [⟨some 8, .p (.mov (.t 0)), none⟩,
      ⟨some 9, .p (.iface 132 (.t 3)), none⟩,
      ⟨some 10, .s (.call 75 [.t 8, .t 9]), none⟩,
      ⟨some 7, .p (.mov (.t 10)), none⟩] [3, 7])
    (.cond (.t 7)
    (.seq (.ops [⟨some 11, .p (.load false 1 (.t 3)), none⟩,
        ⟨some 2, .p (.mov (.t 11)), none⟩] [2])
      (.ret))
    (.skip))))))
  (.seq (.ops [⟨some 2, .p (.mov (.c (.int .i64 (-1)))), none⟩] [2])
  (.ret))))
def r_api_Tell : List VR := [.tmp 2]
theorem t_api_Tell : Tryd.f28.body.bind (trC Tryd.prog Tryd.f28.ntmps) = some (er c_api_Tell) := by kernel_rfl
theorem w_api_Tell : trR Tryd.prog Tryd.f28.results.toList = some r_api_Tell := by kernel_rfl

/-! gitlike/gitlikelaw0.Roomy -/
def c_law0_Roomy_k1 : VCode := .seq (.ops [⟨some 13, .p (.mov (.t 4)), none⟩,
    ⟨some 14, .p (.mov (.t 3)), none⟩,
    ⟨some 15, .p (.idxA 1 (.t 13) (.t 14)), none⟩,
    ⟨none, .s (.store 1 (.t 15) (.c (.int .u8 71))), none⟩] [3, 4])
  (.seq (.ops [⟨some 16, .p (.mov (.t 4)), none⟩,
    ⟨some 17, .p (.mov (.t 3)), none⟩,
    ⟨some 18, .p (.bin 3 .add (.t 17) (.c (.int .i64 1))), none⟩,
    ⟨some 19, .p (.idxA 1 (.t 16) (.t 18)), none⟩,
    ⟨none, .s (.store 1 (.t 19) (.c (.int .u8 72))), none⟩] [3, 4])
  (.seq (.ops [⟨some 20, .p (.mov (.t 4)), none⟩,
    ⟨some 21, .p (.mov (.t 3)), none⟩,
    ⟨some 22, .p (.slV 1 (.t 20) none (some (.t 21))), none⟩,
    ⟨some 2, .p (.mov (.t 22)), none⟩] [2])
  (.ret)))
def c_law0_Roomy_k2 : VCode := .seq (.ops [⟨some 10, .p (.mov (.t 4)), none⟩,
    ⟨some 11, .p (.mov (.t 0)), none⟩,
    ⟨some 12, .s (.copy 1 (.t 10) (.t 11)), none⟩] [3, 4])
  c_law0_Roomy_k1
def c_law0_Roomy_k3 : VCode := .seq (.ops [⟨some 7, .p (.mov (.t 3)), none⟩,
    ⟨some 8, .p (.bin 3 .add (.t 7) (.c (.int .i64 2))), none⟩,
    ⟨some 9, .s (.mks 1 1 (.val (.int .u8 0)) (.t 8) (.t 8)), none⟩,
    ⟨some 4, .p (.mov (.t 9)), none⟩] [0, 3, 4])
  c_law0_Roomy_k2
def c_law0_Roomy_k4 : VCode := .seq (.ops [⟨some 5, .p (.mov (.t 0)), none⟩,
    ⟨some 6, .p (.lenV (.t 5)), none⟩,
    ⟨some 3, .p (.mov (.t 6)), none⟩] [0, 3])
  c_law0_Roomy_k3
def c_law0_Roomy : VCode := .seq (.ops [⟨some 2, .p (.mov (.c (.slice none 0 0))), none⟩] [0])
  c_law0_Roomy_k4
def r_law0_Roomy : List VR := [.tmp 2]
theorem t_law0_Roomy : Tryd.f29.body.bind (trC Tryd.prog Tryd.f29.ntmps) = some (er c_law0_Roomy) := by kernel_rfl
theorem w_law0_Roomy : trR Tryd.prog Tryd.f29.results.toList = some r_law0_Roomy := by kernel_rfl

/-! gitlike/gitlikelaw0.Still -/
def c_law0_Still_L1 : VCode := .seq (.seq (.ops [⟨some 36, .p (.mov (.t 8)), none⟩,
    ⟨some 37, .p (.mov (.t 6)), none⟩,
    ⟨some 38, .p (.lenV (.t 37)), none⟩,
    ⟨some 39, .p (.bin 3 .lss (.t 36) (.t 38)), none⟩] [6, 7, 8, 39])
  (.cond (.t 39)
  (.skip)
  (.exit 0)))
  (.seq (.block 1 (.ops [⟨some 42, .p (.mov (.t 6)), none⟩,
    ⟨some 43, .p (.mov (.t 8)), none⟩,
    ⟨some 44, .p (.mov (.t 6)), none⟩,
    ⟨some 45, .p (.mov (.t 8)), none⟩,
    ⟨some 46, .p (.idxA 1 (.t 44) (.t 45)), none⟩,
    ⟨some 47, .p (.load false 1 (.t 46)), none⟩,
    ⟨some 48, .p (.bin 5 .xor (.t 47) (.c (.int .u8 85))), none⟩,
    ⟨some 49, .p (.idxA 1 (.t 42) (.t 43)), none⟩,
    ⟨none, .s (.store 1 (.t 49) (.t 48)), none⟩] [6, 7, 8]))
  (.ops [⟨some 40, .p (.mov (.t 8)), none⟩,
    ⟨some 41, .p (.bin 3 .add (.t 40) (.c (.int .i64 1))), none⟩,
    ⟨some 8, .p (.mov (.t 41)), none⟩] [6, 7, 8]))
def c_law0_Still_k2 : VCode := .block 0 (.loop [6, 7, 8] c_law0_Still_L1)
def c_law0_Still_k3 : VCode := .seq (.ops [⟨some 50, .p (.mov (.t 7)), none⟩,
    ⟨some 4, .p (.mov (.t 50)), none⟩] [4])
  (.ret)
def c_law0_Still_k4 : VCode := .seq (.seq (.ops [⟨some 8, .p (.mov (.c (.int .i64 0))), none⟩] [6, 7, 8])
  c_law0_Still_k2)
  c_law0_Still_k3
def c_law0_Still_k5 : VCode := .seq (.ops [⟨some 20, .p (.mov (.t 7)), none⟩,
    ⟨some 21, .p (.mov (.t 20)), none⟩,
    ⟨some 22, .p (.mov (.t 6)), some ⟨21, true⟩⟩,
    ⟨some 23, .p (.mov (.t 5)), some ⟨21, true⟩⟩,
    ⟨some 24, .p (.idxA 1 (.t 22) (.t 23)), some ⟨21, true⟩⟩,
    ⟨some 25, .p (.load false 1 (.t 24)), some ⟨21, true⟩⟩,
    ⟨some 26, .p (.bin 5 .eql (.t 25) (.c (.int .u8 71))), some ⟨21, true⟩⟩,
    ⟨some 27, .p (.pick (.t 21) (.t 26) (.c (.bool false))), none⟩,
    ⟨some 28, .p (.mov (.t 27)), none⟩,
    ⟨some 29, .p (.mov (.t 6)), some ⟨28, true⟩⟩,
    ⟨some 30, .p (.mov (.t 5)), some ⟨28, true⟩⟩,
    ⟨some 31, .p (.bin 3 .add (.t 30) (.c (.int .i64 1))), some ⟨28, true⟩⟩,
    ⟨some 32, .p (.idxA 1 (.t 29) (.t 31)), some ⟨28, true⟩⟩,
    ⟨some 33, .p (.load false 1 (.t 32)), some ⟨28, true⟩⟩,
    ⟨some 34, .p (.bin 5 .eql (.t 33) (.c (.int .u8 72))), some ⟨28, true⟩⟩,
    ⟨some 35, .p (.pick (.t 28) (.t 34) (.c (.bool false))), none⟩,
    ⟨some 7, .p (.mov (.t 35)), none⟩] [6, 7])
  c_law0_Still_k4
def c_law0_Still_k6 : VCode := .seq (.ops [⟨some 15, .p (.mov (.t 6)), none⟩,
    ⟨some 16, .p (.mov (.t 5)), none⟩,
    ⟨some 17, .p (.slV 1 (.t 15) none (some (.t 16))), none⟩,
    ⟨some 18, .p (.mov (.t 1)), none⟩,
    ⟨some 19, .s (.call 21 [.t 17, .t 18]), none⟩,
    ⟨some 7, .p (.mov (.t 19)), none⟩] [5, 6, 7])
  c_law0_Still_k5
def c_law0_Still_k7 : VCode := .seq (.ops [⟨some 11, .p (.mov (.t 0)), none⟩,
    ⟨some 12, .p (.mov (.t 5)), none⟩,
    ⟨some 13, .p (.bin 3 .add (.t 12) (.c (.int .i64 2))), none⟩,
    ⟨some 14, .p (.slV 1 (.t 11) none (some (.t 13))), none⟩,
    ⟨some 6, .p (.mov (.t 14)), none⟩] [1, 5, 6])
  c_law0_Still_k6
def c_law0_Still_k8 : VCode := .seq (.ops [⟨some 9, .p (.mov (.t 1)), none⟩,
    ⟨some 10, .p (.lenV (.t 9)), none⟩,
    ⟨some 5, .p (.mov (.t 10)), none⟩] [0, 1, 5])
  c_law0_Still_k7
def c_law0_Still : VCode := .seq (.ops [⟨some 4, .p (.mov (.c (.bool false))), none⟩] [0, 1])
  c_law0_Still_k8
def r_law0_Still : List VR := [.tmp 4]
theorem t_law0_Still : Tryd.f31.body.bind (trC Tryd.prog Tryd.f31.ntmps) = some (er c_law0_Still) := by kernel_rfl
theorem w_law0_Still : trR Tryd.prog Tryd.f31.results.toList = some r_law0_Still := by kernel_rfl

/-! gitlike/gitlikelaw0.Same -/
def c_law0_Same_k1 : VCode := .seq (.block 1 (.seq (.draw 5 [⟨some 17, .p (.mov (.t 0)), none⟩,
    ⟨some 18, .p (.mov (.t 5)), none⟩,
    ⟨some 19, .p (.idxA 1 (.t 17) (.t 18)), none⟩,
    ⟨some 20, .p (.load false 1 (.t 19)), none⟩,
    ⟨some 21, .p (.mov (.t 1)), none⟩,
    ⟨some 22, .p (.mov (.t 5)), none⟩,
    ⟨some 23, .p (.idxA 1 (.t 21) (.t 22)), none⟩,
    ⟨some 24, .p (.load false 1 (.t 23)), none⟩,
    ⟨some 25, .p (.bin 5 .neq (.t 20) (.t 24)), none⟩] [0, 1, 5, 25])
  (.cond (.t 25)
  (.seq (.ops [⟨some 4, .p (.mov (.c (.bool false))), none⟩] [4])
    (.ret))
  (.skip))))
  (.ops [⟨some 15, .p (.mov (.t 5)), none⟩,
    ⟨some 16, .p (.bin 3 .add (.t 15) (.c (.int .i64 1))), none⟩,
    ⟨some 5, .p (.mov (.t 16)), none⟩] [0, 1, 5])
def c_law0_Same_L2 : VCode := .seq (.seq (.ops [⟨some 11, .p (.mov (.t 5)), none⟩,
    ⟨some 12, .p (.mov (.t 0)), none⟩,
    ⟨some 13, .p (.lenV (.t 12)), none⟩,
    ⟨some 14, .p (.bin 3 .lss (.t 11) (.t 13)), none⟩] [0, 1, 5, 14])
  (.cond (.t 14)
  (.skip)
  (.exit 0)))
  c_law0_Same_k1
def c_law0_Same_k3 : VCode := .block 0 (.loop [0, 1, 5] c_law0_Same_L2)
def c_law0_Same_k4 : VCode := .seq (.ops [⟨some 4, .p (.mov (.c (.bool true))), none⟩] [4])
  (.ret)
def c_law0_Same_k5 : VCode := .seq (.seq (.ops [⟨some 5, .p (.mov (.c (.int .i64 0))), none⟩] [0, 1, 5])
  c_law0_Same_k3)
  c_law0_Same_k4
def c_law0_Same_k6 : VCode := .seq (.seq (.ops [⟨some 6, .p (.mov (.t 0)), none⟩,
    ⟨some 7, .p (.lenV (.t 6)), none⟩,
    ⟨some 8, .p (.mov (.t 1)), none⟩,
    ⟨some 9, .p (.lenV (.t 8)), none⟩,
    ⟨some 10, .p (.bin 3 .neq (.t 7) (.t 9)), none⟩] [0, 1, 10])
  (.cond (.t 10)
  (.seq (.ops [⟨some 4, .p (.mov (.c (.bool false))), none⟩] [4])
    (.ret))
  (.skip)))
  c_law0_Same_k5
def c_law0_Same : VCode := .seq (.ops [⟨some 4, .p (.mov (.c (.bool false))), none⟩] [0, 1])
  c_law0_Same_k6
def r_law0_Same : List VR := [.tmp 4]
theorem t_law0_Same : Tryd.f21.body.bind (trC Tryd.prog Tryd.f21.ntmps) = some (er c_law0_Same) := by kernel_rfl
theorem w_law0_Same : trR Tryd.prog Tryd.f21.results.toList = some r_law0_Same := by kernel_rfl

/-! (*gitlike/delta.reader).byte -/
def c_delta_reader_byte_k1 : VCode := .seq (.ops [⟨some 13, .p (.mov (.t 0)), none⟩,
    ⟨some 14, .p (.nilc (.t 13)), none⟩,
    ⟨some 15, .p (.fieldA 0 0 (.t 14)), none⟩,
    ⟨some 16, .p (.load false 1 (.t 15)), none⟩,
    ⟨some 17, .p (.idxA 1 (.t 16) (.c (.int .i64 0))), none⟩,
    ⟨some 18, .p (.load false 1 (.t 17)), none⟩,
    ⟨some 3, .p (.mov (.t 18)), none⟩] [0, 3])
  (.seq (.ops [⟨some 19, .p (.mov (.t 0)), none⟩,
    ⟨some 20, .p (.mov (.t 0)), none⟩,
    ⟨some 21, .p (.nilc (.t 20)), none⟩,
    ⟨some 22, .p (.fieldA 0 0 (.t 21)), none⟩,
    ⟨some 23, .p (.load false 1 (.t 22)), none⟩,
    ⟨some 24, .p (.slV 1 (.t 23) (some (.c (.int .i64 1))) none), none⟩,
    ⟨some 25, .p (.nilc (.t 19)), none⟩,
    ⟨some 26, .p (.fieldA 0 0 (.t 25)), none⟩,
    ⟨none, .s (.store 1 (.t 26) (.t 24)), none⟩] [3])
  (.seq (.ops [⟨some 27, .p (.mov (.t 3)), none⟩,
    ⟨some 28, .p (.conv .i64 (.t 27)), none⟩,
    ⟨some 2, .p (.mov (.t 28)), none⟩] [2])
  (.ret)))
def c_delta_reader_byte_k2 : VCode := .seq (.seq (.ops [⟨some 4, .p (.mov (.t 0)), none⟩,
    ⟨some 5, .p (.nilc (.t 4)), none⟩,
    ⟨some 6, .p (.fieldA 0 0 (.t 5)), none⟩,
    ⟨some 7, .p (.load false 1 (.t 6)), none⟩,
    ⟨some 8, .p (.lenV (.t 7)), none⟩,
    ⟨some 9, .p (.bin 3 .eql (.t 8) (.c (.int .i64 0))), none⟩] [0, 9])
  (.cond (.t 9)
  (.seq (.ops [⟨some 10, .p (.mov (.t 0)), none⟩,
      ⟨some 11, .p (.nilc (.t 10)), none⟩,
      ⟨some 12, .p (.fieldA 1 1 (.t 11)), none⟩,
      ⟨none, .s (.store 1 (.t 12) (.c (.bool true))), none⟩] [])
    (.seq (.ops [⟨some 2, .p (.mov (.c (.int .i64 0))), none⟩] [2])
    (.ret)))
  (.skip)))
  c_delta_reader_byte_k1
def c_delta_reader_byte : VCode := .seq (.ops [⟨some 2, .p (.mov (.c (.int .i64 0))), none⟩] [0])
  c_delta_reader_byte_k2
def r_delta_reader_byte : List VR := [.tmp 2]
theorem t_delta_reader_byte : Tryd.f100.body.bind (trC Tryd.prog Tryd.f100.ntmps) = some (er c_delta_reader_byte) := by kernel_rfl
theorem w_delta_reader_byte : trR Tryd.prog Tryd.f100.results.toList = some r_delta_reader_byte := by kernel_rfl

/-! (*gitlike/delta.reader).size -/
def c_delta_reader_size_b1 : VCode := .seq (.ops [⟨some 20, .p (.mov (.t 0)), none⟩,
    ⟨some 21, .p (.mov (.t 0)), none⟩,
    ⟨some 22, .p (.nilc (.t 21)), none⟩,
    ⟨some 23, .p (.fieldA 1 1 (.t 22)), none⟩,
    ⟨some 24, .p (.load false 1 (.t 23)), none⟩,
    ⟨some 25, .p (.mov (.t 24)), none⟩,
    ⟨some 26, .p (.mov (.t 4)), some ⟨25, false⟩⟩,
    ⟨some 27, .p (.bin 3 .gtr (.t 26) (.c (.int .i64 0))), some ⟨25, false⟩⟩,
    ⟨some 28, .p (.mov (.t 27)), some ⟨25, false⟩⟩,
    ⟨some 29, .p (.mov (.t 5)), some ⟨28, true⟩⟩,
    ⟨some 30, .p (.bin 3 .eql (.t 29) (.c (.int .i64 0))), some ⟨28, true⟩⟩,
    ⟨some 31, .p (.pick (.t 28) (.t 30) (.c (.bool false))), some ⟨25, false⟩⟩,
    ⟨some 32, .p (.pick (.t 25) (.c (.bool true)) (.t 31)), none⟩,
    ⟨some 33, .p (.nilc (.t 20)), none⟩,
    ⟨some 34, .p (.fieldA 1 1 (.t 33)), none⟩,
    ⟨none, .s (.store 1 (.t 34) (.t 32)), none⟩] [3])
  (.seq (.ops [⟨some 35, .p (.mov (.t 3)), none⟩,
    ⟨some 2, .p (.mov (.t 35)), none⟩] [2])
  (.ret))
def c_delta_reader_size_k2 : VCode := .cond (.t 19)
  c_delta_reader_size_b1
  (.skip)
def c_delta_reader_size_k3 : VCode := .seq (.ops [⟨some 18, .p (.mov (.t 5)), none⟩,
    ⟨some 19, .p (.bin 3 .lss (.t 18) (.c (.int .i64 128))), none⟩] [0, 3, 4, 5, 6, 19])
  c_delta_reader_size_k2
def c_delta_reader_size_k4 : VCode := .seq (.ops [⟨some 11, .p (.mov (.t 3)), none⟩,
    ⟨some 12, .p (.mov (.t 5)), none⟩,
    ⟨some 13, .p (.bin 3 .and (.t 12) (.c (.int .i64 127))), none⟩,
    ⟨some 14, .p (.mov (.t 4)), none⟩,
    ⟨some 15, .p (.bin 3 .mul (.c (.int .i64 7)) (.t 14)), none⟩,
    ⟨some 16, .p (.bin 3 .shl (.t 13) (.t 15)), none⟩,
    ⟨some 17, .p (.bin 3 .or (.t 11) (.t 16)), none⟩,
    ⟨some 3, .p (.mov (.t 17)), none⟩] [0, 3, 4, 5, 6])
  c_delta_reader_size_k3
def c_delta_reader_size_k5 : VCode := .seq (.ops [⟨some 9, .p (.mov (.t 0)), none⟩,
    ⟨some 10, .s (.call 100 [.t 9]), none⟩,
    ⟨some 5, .p (.mov (.t 10)), none⟩] [0, 3, 4, 5, 6])
  c_delta_reader_size_k4
def c_delta_reader_size_k6 : VCode := .seq (.block 1 (.seq (.ops [⟨some 8, .p (.mov (.t 6)), none⟩,
    ⟨some 4, .p (.mov (.t 8)), none⟩] [0, 3, 4, 6])
  c_delta_reader_size_k5))
  (.ops [⟨some 36, .p (.bin 3 .add (.t 6) (.c (.int .i64 1))), none⟩,
    ⟨some 6, .p (.mov (.t 36)), none⟩] [0, 3, 6])
def c_delta_reader_size_k7 : VCode := .seq (.cond (.t 7)
  (.skip)
  (.exit 0))
  c_delta_reader_size_k6
def c_delta_reader_size_L8 : VCode := .seq (.ops [⟨some 7, .p (.bin 3 .lss (.t 6) (.c (.int .i64 5))), none⟩] [0, 3, 6, 7])
  c_delta_reader_size_k7
def c_delta_reader_size_k9 : VCode := .block 0 (.loop [0, 3, 6] c_delta_reader_size_L8)
def c_delta_reader_size_k10 : VCode := .seq (.ops [⟨some 37, .p (.mov (.t 0)), none⟩,
    ⟨some 38, .p (.nilc (.t 37)), none⟩,
    ⟨some 39, .p (.fieldA 1 1 (.t 38)), none⟩,
    ⟨none, .s (.store 1 (.t 39) (.c (.bool true))), none⟩] [])
  (.seq (.ops [⟨some 2, .p (.mov (.c (.int .i64 0))), none⟩] [2])
  (.ret))
def c_delta_reader_size_k11 : VCode := .seq (.seq (.ops [⟨some 6, .p (.mov (.c (.int .i64 0))), none⟩] [0, 3, 6])
  c_delta_reader_size_k9)
  c_delta_reader_size_k10
def c_delta_reader_size_k12 : VCode := .seq (.ops [⟨some 3, .p (.mov (.c (.int .i64 0))), none⟩] [0, 3])
  c_delta_reader_size_k11
def c_delta_reader_size : VCode := .seq (.ops [⟨some 2, .p (.mov (.c (.int .i64 0))), none⟩] [0])
  c_delta_reader_size_k12
def r_delta_reader_size : List VR := [.tmp 2]
theorem t_delta_reader_size : Tryd.f99.body.bind (trC Tryd.prog Tryd.f99.ntmps) = some (er c_delta_reader_size) := by kernel_rfl
theorem w_delta_reader_size : trR Tryd.prog Tryd.f99.results.toList = some r_delta_reader_size := by kernel_rfl

/-! (*gitlike/delta.reader).number -/
def c_delta_reader_number_b1 : VCode := .ops [⟨some 14, .p (.mov (.t 5)), none⟩,
    ⟨some 15, .p (.mov (.t 0)), none⟩,
    ⟨some 16, .s (.call 100 [.t 15]), none⟩,
    ⟨some 17, .p (.mov (.t 6)), none⟩,
    ⟨some 18, .p (.bin 3 .mul (.c (.int .i64 8)) (.t 17)), none⟩,
    ⟨some 19, .p (.bin 3 .shl (.t 16) (.t 18)), none⟩,
    ⟨some 20, .p (.bin 3 .or (.t 14) (.t 19)), none⟩,
    ⟨some 5, .p (.mov (.t 20)), none⟩] [0, 1, 5, 6]
def c_delta_reader_number_k2 : VCode := .seq (.block 1 (.seq (.seq (.ops [⟨some 11, .p (.mov (.t 1)), none⟩,
    ⟨some 12, .p (.bin 3 .and (.t 11) (.c (.int .i64 1))), none⟩,
    ⟨some 13, .p (.bin 3 .eql (.t 12) (.c (.int .i64 1))), none⟩] [0, 1, 5, 6, 13])
  (.cond (.t 13)
  c_delta_reader_number_b1
  (.skip)))
  (.ops [⟨some 21, .p (.mov (.t 1)), none⟩,
    ⟨some 22, .p (.bin 3 .shr (.t 21) (.c (.int .u64 1))), none⟩,
    ⟨some 1, .p (.mov (.t 22)), none⟩] [0, 1, 5, 6])))
  (.ops [⟨some 9, .p (.mov (.t 6)), none⟩,
    ⟨some 10, .p (.bin 3 .add (.t 9) (.c (.int .i64 1))), none⟩,
    ⟨some 6, .p (.mov (.t 10)), none⟩] [0, 1, 5, 6])
def c_delta_reader_number_L3 : VCode := .seq (.seq (.ops [⟨some 7, .p (.mov (.t 1)), none⟩,
    ⟨some 8, .p (.bin 3 .gtr (.t 7) (.c (.int .i64 0))), none⟩] [0, 1, 5, 6, 8])
  (.cond (.t 8)
  (.skip)
  (.exit 0)))
  c_delta_reader_number_k2
def c_delta_reader_number_k4 : VCode := .block 0 (.loop [0, 1, 5, 6] c_delta_reader_number_L3)
def c_delta_reader_number_k5 : VCode := .seq (.ops [⟨some 23, .p (.mov (.t 5)), none⟩,
    ⟨some 4, .p (.mov (.t 23)), none⟩] [4])
  (.ret)
def c_delta_reader_number_k6 : VCode := .seq (.seq (.ops [⟨some 6, .p (.mov (.c (.int .i64 0))), none⟩] [0, 1, 5, 6])
  c_delta_reader_number_k4)
  c_delta_reader_number_k5
def c_delta_reader_number_k7 : VCode := .seq (.ops [⟨some 5, .p (.mov (.c (.int .i64 0))), none⟩] [0, 1, 5])
  c_delta_reader_number_k6
def c_delta_reader_number : VCode := .seq (.ops [⟨some 4, .p (.mov (.c (.int .i64 0))), none⟩] [0, 1])
  c_delta_reader_number_k7
def r_delta_reader_number : List VR := [.tmp 4]
theorem t_delta_reader_number : Tryd.f101.body.bind (trC Tryd.prog Tryd.f101.ntmps) = some (er c_delta_reader_number) := by kernel_rfl
theorem w_delta_reader_number : trR Tryd.prog Tryd.f101.results.toList = some r_delta_reader_number := by kernel_rfl

/-! gitlike/gitlikeref4.size -/
def c_ref4_size_b1 : VCode := .seq (.draw 16 [⟨some 33, .p (.mov (.t 5)), none⟩,
    ⟨some 34, .p (.mov (.t 0)), none⟩,
    ⟨some 35, .p (.mov (.t 6)), none⟩,
    ⟨some 36, .p (.bin 3 .add (.t 35) (.c (.int .i64 1))), none⟩,
    ⟨some 37, .p (.slV 1 (.t 34) (some (.t 36)) none), none⟩,
    ⟨some 38, .p (.mov (.t 6)), none⟩,
    ⟨some 39, .p (.bin 3 .eql (.t 38) (.c (.int .i64 0))), none⟩,
    ⟨some 40, .p (.mov (.t 39)), none⟩,
    ⟨some 41, .p (.mov (.t 0)), some ⟨40, false⟩⟩,
    ⟨some 42, .p (.mov (.t 6)), some ⟨40, false⟩⟩,
    ⟨some 43, .p (.idxA 1 (.t 41) (.t 42)), some ⟨40, false⟩⟩,
    ⟨some 44, .p (.load false 1 (.t 43)), some ⟨40, false⟩⟩,
    ⟨some 45, .p (.bin 5 .gtr (.t 44) (.c (.int .u8 0))), some ⟨40, false⟩⟩,
    ⟨some 46, .p (.pick (.t 40) (.c (.bool true)) (.t 45)), none⟩,
    ⟨some 2, .p (.mov (.t 33)), none⟩,
    ⟨some 3, .p (.mov (.t 37)), none⟩,
    ⟨some 4, .p (.mov (.t 46)), none⟩] [2, 3, 4])
  (.ret)
def c_ref4_size_k2 : VCode := .cond (.t 32)
  c_ref4_size_b1
  (.skip)
def c_ref4_size_k3 : VCode := .seq (.ops [⟨some 28, .p (.mov (.t 0)), none⟩,
    ⟨some 29, .p (.mov (.t 6)), none⟩,
    ⟨some 30, .p (.idxA 1 (.t 28) (.t 29)), none⟩,
    ⟨some 31, .p (.load false 1 (.t 30)), none⟩,
    ⟨some 32, .p (.bin 5 .lss (.t 31) (.c (.int .u8 128))), none⟩] [0, 5, 6, 32])
  c_ref4_size_k2
def c_ref4_size_k4 : VCode := .seq (.block 1 (.seq (.ops [⟨some 17, .p (.mov (.t 5)), none⟩,
    ⟨some 18, .p (.mov (.t 0)), none⟩,
    ⟨some 19, .p (.mov (.t 6)), none⟩,
    ⟨some 20, .p (.idxA 1 (.t 18) (.t 19)), none⟩,
    ⟨some 21, .p (.load false 1 (.t 20)), none⟩,
    ⟨some 22, .p (.conv .i64 (.t 21)), none⟩,
    ⟨some 23, .p (.bin 3 .rem (.t 22) (.c (.int .i64 128))), none⟩,
    ⟨some 24, .p (.mov (.t 6)), none⟩,
    ⟨some 25, .p (.bin 3 .mul (.c (.int .i64 7)) (.t 24)), none⟩,
    ⟨some 26, .p (.bin 3 .shl (.t 23) (.t 25)), none⟩,
    ⟨some 27, .p (.bin 3 .add (.t 17) (.t 26)), none⟩,
    ⟨some 5, .p (.mov (.t 27)), none⟩] [0, 5, 6])
  c_ref4_size_k3))
  (.ops [⟨some 15, .p (.mov (.t 6)), none⟩,
    ⟨some 16, .p (.bin 3 .add (.t 15) (.c (.int .i64 1))), none⟩,
    ⟨some 6, .p (.mov (.t 16)), none⟩] [0, 5, 6])
def c_ref4_size_L5 : VCode := .seq (.seq (.ops [⟨some 7, .p (.mov (.t 6)), none⟩,
    ⟨some 8, .p (.bin 3 .lss (.t 7) (.c (.int .i64 5))), none⟩,
    ⟨some 9, .p (.mov (.t 8)), none⟩,
    ⟨some 10, .p (.mov (.t 6)), some ⟨9, true⟩⟩,
    ⟨some 11, .p (.mov (.t 0)), some ⟨9, true⟩⟩,
    ⟨some 12, .p (.lenV (.t 11)), some ⟨9, true⟩⟩,
    ⟨some 13, .p (.bin 3 .lss (.t 10) (.t 12)), some ⟨9, true⟩⟩,
    ⟨some 14, .p (.pick (.t 9) (.t 13) (.c (.bool false))), none⟩] [0, 5, 6, 14])
  (.cond (.t 14)
  (.skip)
  (.exit 0)))
  c_ref4_size_k4
def c_ref4_size_k6 : VCode := .block 0 (.loop [0, 5, 6] c_ref4_size_L5)
def c_ref4_size_k7 : VCode := .seq (.ops [⟨some 47, .p (.mov (.t 0)), none⟩,
    ⟨some 2, .p (.mov (.c (.int .i64 0))), none⟩,
    ⟨some 3, .p (.mov (.t 47)), none⟩,
    ⟨some 4, .p (.mov (.c (.bool false))), none⟩] [2, 3, 4])
  (.ret)
def c_ref4_size_k8 : VCode := .seq (.seq (.ops [⟨some 6, .p (.mov (.c (.int .i64 0))), none⟩] [0, 5, 6])
  c_ref4_size_k6)
  c_ref4_size_k7
def c_ref4_size_k9 : VCode := .seq (.ops [⟨some 5, .p (.mov (.c (.int .i64 0))), none⟩] [0, 5])
  c_ref4_size_k8
def c_ref4_size : VCode := .seq (.ops [⟨some 2, .p (.mov (.c (.int .i64 0))), none⟩,
    ⟨some 3, .p (.mov (.c (.slice none 0 0))), none⟩,
    ⟨some 4, .p (.mov (.c (.bool false))), none⟩] [0])
  c_ref4_size_k9
def r_ref4_size : List VR := [.tmp 2, .tmp 3, .tmp 4]
theorem t_ref4_size : Tryd.f165.body.bind (trC Tryd.prog Tryd.f165.ntmps) = some (er c_ref4_size) := by kernel_rfl
theorem w_ref4_size : trR Tryd.prog Tryd.f165.results.toList = some r_ref4_size := by kernel_rfl

/-! gitlike/gitlikeref4.Sizes -/
def c_ref4_Sizes_k1 : VCode := .seq (.seq (.ops [⟨some 24, .p (.mov (.t 8)), none⟩,
    ⟨some 25, .p (.un .not (.t 24)), none⟩] [6, 7, 9, 25])
  (.cond (.t 25)
  (.seq (.ops [⟨some 2, .p (.mov (.c (.int .i64 0))), none⟩,
      ⟨some 3, .p (.mov (.c (.int .i64 0))), none⟩,
      ⟨some 4, .p (.mov (.c (.slice none 0 0))), none⟩,
      ⟨some 5, .p (.mov (.c (.bool false))), none⟩] [2, 3, 4, 5])
    (.ret))
  (.skip)))
  (.seq (.ops [⟨some 26, .p (.mov (.t 6)), none⟩,
    ⟨some 27, .p (.mov (.t 9)), none⟩,
    ⟨some 28, .p (.mov (.t 7)), none⟩,
    ⟨some 2, .p (.mov (.t 26)), none⟩,
    ⟨some 3, .p (.mov (.t 27)), none⟩,
    ⟨some 4, .p (.mov (.t 28)), none⟩,
    ⟨some 5, .p (.mov (.c (.bool true))), none⟩] [2, 3, 4, 5])
  (.ret))
def c_ref4_Sizes_k2 : VCode := .seq (.ops [⟨some 19, .p (.mov (.t 7)), none⟩,
    ⟨some 20, .s (.call 165 [.t 19]), none⟩,
    ⟨some 18, .p (.mov (.t 20)), none⟩,
    ⟨some 21, .p (.ext 0 (.t 18)), none⟩,
    ⟨some 22, .p (.ext 1 (.t 18)), none⟩,
    ⟨some 23, .p (.ext 2 (.t 18)), none⟩,
    ⟨some 9, .p (.mov (.t 21)), none⟩,
    ⟨some 7, .p (.mov (.t 22)), none⟩,
    ⟨some 8, .p (.mov (.t 23)), none⟩] [6, 7, 8, 9])
  c_ref4_Sizes_k1
def c_ref4_Sizes_k3 : VCode := .seq (.seq (.ops [⟨some 16, .p (.mov (.t 8)), none⟩,
    ⟨some 17, .p (.un .not (.t 16)), none⟩] [6, 7, 17])
  (.cond (.t 17)
  (.seq (.ops [⟨some 2, .p (.mov (.c (.int .i64 0))), none⟩,
      ⟨some 3, .p (.mov (.c (.int .i64 0))), none⟩,
      ⟨some 4, .p (.mov (.c (.slice none 0 0))), none⟩,
      ⟨some 5, .p (.mov (.c (.bool false))), none⟩] [2, 3, 4, 5])
    (.ret))
  (.skip)))
  c_ref4_Sizes_k2
def c_ref4_Sizes_k4 : VCode := .seq (.ops [⟨some 11, .p (.mov (.t 0)), none⟩,
    ⟨some 12, .s (.call 165 [.t 11]), none⟩,
    ⟨some 10, .p (.mov (.t 12)), none⟩,
    ⟨some 13, .p (.ext 0 (.t 10)), none⟩,
    ⟨some 14, .p (.ext 1 (.t 10)), none⟩,
    ⟨some 15, .p (.ext 2 (.t 10)), none⟩,
    ⟨some 6, .p (.mov (.t 13)), none⟩,
    ⟨some 7, .p (.mov (.t 14)), none⟩,
    ⟨some 8, .p (.mov (.t 15)), none⟩] [6, 7, 8])
  c_ref4_Sizes_k3
def c_ref4_Sizes : VCode := .seq (.ops [⟨some 2, .p (.mov (.c (.int .i64 0))), none⟩,
    ⟨some 3, .p (.mov (.c (.int .i64 0))), none⟩,
    ⟨some 4, .p (.mov (.c (.slice none 0 0))), none⟩,
    ⟨some 5, .p (.mov (.c (.bool false))), none⟩] [0])
  c_ref4_Sizes_k4
def r_ref4_Sizes : List VR := [.tmp 2, .tmp 3, .tmp 4, .tmp 5]
theorem t_ref4_Sizes : Tryd.f102.body.bind (trC Tryd.prog Tryd.f102.ntmps) = some (er c_ref4_Sizes) := by kernel_rfl
theorem w_ref4_Sizes : trR Tryd.prog Tryd.f102.results.toList = some r_ref4_Sizes := by kernel_rfl

end Go.Proofs.YtijidndhlgbjhaaDoor
