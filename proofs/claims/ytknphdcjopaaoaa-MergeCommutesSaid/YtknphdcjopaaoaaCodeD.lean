/- The code of some functions, as the machine of values has it: printed by vm.py out of the program; each is the program's own (t_..: by the kernel). -/
import Derived.Test.YtknphdcjopaaoaaVmN
import Derived.Test.YtknphdcjopaaoaaProg
import Derived.KernelRfl
namespace Go.Proofs.Ytknphdcjopaaoaa
set_option linter.unusedVariables false
set_option linter.defProp false
set_option maxRecDepth 100000

/-! gitlike/gitlikelaw0.Roomy -/
def c_law0_Roomy_k1 : VCode := .seq (.ops [⟨some 13, .p (.mov (.t 4)), none⟩,
    ⟨some 14, .p (.mov (.t 3)), none⟩,
    ⟨some 15, .p (.idxA 1 (.t 13) (.t 14)), none⟩,
    ⟨none, .s (.store 1 (.t 15) (.c (.int .u8 71))), none⟩] [3, 4])
  (.seq (.ops [⟨some 16, .p (.mov (.t 4)), none⟩,
    ⟨some 17, .p (.mov (.t 3)), none⟩,
    ⟨some 18, .p (.bin 3 .add (.t 17) (.c (.int .i64 1))), none⟩,
    ⟨some 19, .p (.idxA 1 (.t 16) (.t 18)), none⟩,
    ⟨none, .s (.store 1 (.t 19) (.c (.int .u8 72))), none⟩] [3, 4])
  (.seq (.ops [⟨some 20, .p (.mov (.t 4)), none⟩,
    ⟨some 21, .p (.mov (.t 3)), none⟩,
    ⟨some 22, .p (.slV 1 (.t 20) none (some (.t 21))), none⟩,
    ⟨some 2, .p (.mov (.t 22)), none⟩] [2])
  (.ret)))
def c_law0_Roomy_k2 : VCode := .seq (.ops [⟨some 10, .p (.mov (.t 4)), none⟩,
    ⟨some 11, .p (.mov (.t 0)), none⟩,
    ⟨some 12, .s (.copy 1 (.t 10) (.t 11)), none⟩] [3, 4])
  c_law0_Roomy_k1
def c_law0_Roomy_k3 : VCode := .seq (.ops [⟨some 7, .p (.mov (.t 3)), none⟩,
    ⟨some 8, .p (.bin 3 .add (.t 7) (.c (.int .i64 2))), none⟩,
    ⟨some 9, .s (.mks 1 1 (.val (.int .u8 0)) (.t 8) (.t 8)), none⟩,
    ⟨some 4, .p (.mov (.t 9)), none⟩] [0, 3, 4])
  c_law0_Roomy_k2
def c_law0_Roomy_k4 : VCode := .seq (.ops [⟨some 5, .p (.mov (.t 0)), none⟩,
    ⟨some 6, .p (.lenV (.t 5)), none⟩,
    ⟨some 3, .p (.mov (.t 6)), none⟩] [0, 3])
  c_law0_Roomy_k3
def c_law0_Roomy : VCode := .seq (.ops [⟨some 2, .p (.mov (.c (.slice none 0 0))), none⟩] [0])
  c_law0_Roomy_k4
def r_law0_Roomy : List VR := [.tmp 2]
theorem t_law0_Roomy : Try.f10.body.bind (trC Try.prog Try.f10.ntmps) = some (er c_law0_Roomy) := by kernel_rfl
theorem w_law0_Roomy : trR Try.prog Try.f10.results.toList = some r_law0_Roomy := by kernel_rfl

/-! gitlike/gitlikelaw0.Still -/
def c_law0_Still_L1 : VCode := .seq (.seq (.ops [⟨some 36, .p (.mov (.t 8)), none⟩,
    ⟨some 37, .p (.mov (.t 6)), none⟩,
    ⟨some 38, .p (.lenV (.t 37)), none⟩,
    ⟨some 39, .p (.bin 3 .lss (.t 36) (.t 38)), none⟩] [6, 7, 8, 39])
  (.cond (.t 39)
  (.skip)
  (.exit 0)))
  (.seq (.block 1 (.ops [⟨some 42, .p (.mov (.t 6)), none⟩,
    ⟨some 43, .p (.mov (.t 8)), none⟩,
    ⟨some 44, .p (.mov (.t 6)), none⟩,
    ⟨some 45, .p (.mov (.t 8)), none⟩,
    ⟨some 46, .p (.idxA 1 (.t 44) (.t 45)), none⟩,
    ⟨some 47, .p (.load false 1 (.t 46)), none⟩,
    ⟨some 48, .p (.bin 5 .xor (.t 47) (.c (.int .u8 85))), none⟩,
    ⟨some 49, .p (.idxA 1 (.t 42) (.t 43)), none⟩,
    ⟨none, .s (.store 1 (.t 49) (.t 48)), none⟩] [6, 7, 8]))
  (.ops [⟨some 40, .p (.mov (.t 8)), none⟩,
    ⟨some 41, .p (.bin 3 .add (.t 40) (.c (.int .i64 1))), none⟩,
    ⟨some 8, .p (.mov (.t 41)), none⟩] [6, 7, 8]))
def c_law0_Still_k2 : VCode := .block 0 (.loop [6, 7, 8] c_law0_Still_L1)
def c_law0_Still_k3 : VCode := .seq (.ops [⟨some 50, .p (.mov (.t 7)), none⟩,
    ⟨some 4, .p (.mov (.t 50)), none⟩] [4])
  (.ret)
def c_law0_Still_k4 : VCode := .seq (.seq (.ops [⟨some 8, .p (.mov (.c (.int .i64 0))), none⟩] [6, 7, 8])
  c_law0_Still_k2)
  c_law0_Still_k3
def c_law0_Still_k5 : VCode := .seq (.ops [⟨some 20, .p (.mov (.t 7)), none⟩,
    ⟨some 21, .p (.mov (.t 20)), none⟩,
    ⟨some 22, .p (.mov (.t 6)), some ⟨21, true⟩⟩,
    ⟨some 23, .p (.mov (.t 5)), some ⟨21, true⟩⟩,
    ⟨some 24, .p (.idxA 1 (.t 22) (.t 23)), some ⟨21, true⟩⟩,
    ⟨some 25, .p (.load false 1 (.t 24)), some ⟨21, true⟩⟩,
    ⟨some 26, .p (.bin 5 .eql (.t 25) (.c (.int .u8 71))), some ⟨21, true⟩⟩,
    ⟨some 27, .p (.pick (.t 21) (.t 26) (.c (.bool false))), none⟩,
    ⟨some 28, .p (.mov (.t 27)), none⟩,
    ⟨some 29, .p (.mov (.t 6)), some ⟨28, true⟩⟩,
    ⟨some 30, .p (.mov (.t 5)), some ⟨28, true⟩⟩,
    ⟨some 31, .p (.bin 3 .add (.t 30) (.c (.int .i64 1))), some ⟨28, true⟩⟩,
    ⟨some 32, .p (.idxA 1 (.t 29) (.t 31)), some ⟨28, true⟩⟩,
    ⟨some 33, .p (.load false 1 (.t 32)), some ⟨28, true⟩⟩,
    ⟨some 34, .p (.bin 5 .eql (.t 33) (.c (.int .u8 72))), some ⟨28, true⟩⟩,
    ⟨some 35, .p (.pick (.t 28) (.t 34) (.c (.bool false))), none⟩,
    ⟨some 7, .p (.mov (.t 35)), none⟩] [6, 7])
  c_law0_Still_k4
def c_law0_Still_k6 : VCode := .seq (.ops [⟨some 15, .p (.mov (.t 6)), none⟩,
    ⟨some 16, .p (.mov (.t 5)), none⟩,
    ⟨some 17, .p (.slV 1 (.t 15) none (some (.t 16))), none⟩,
    ⟨some 18, .p (.mov (.t 1)), none⟩,
    ⟨some 19, .s (.call 30 [.t 17, .t 18]), none⟩,
    ⟨some 7, .p (.mov (.t 19)), none⟩] [5, 6, 7])
  c_law0_Still_k5
def c_law0_Still_k7 : VCode := .seq (.ops [⟨some 11, .p (.mov (.t 0)), none⟩,
    ⟨some 12, .p (.mov (.t 5)), none⟩,
    ⟨some 13, .p (.bin 3 .add (.t 12) (.c (.int .i64 2))), none⟩,
    ⟨some 14, .p (.slV 1 (.t 11) none (some (.t 13))), none⟩,
    ⟨some 6, .p (.mov (.t 14)), none⟩] [1, 5, 6])
  c_law0_Still_k6
def c_law0_Still_k8 : VCode := .seq (.ops [⟨some 9, .p (.mov (.t 1)), none⟩,
    ⟨some 10, .p (.lenV (.t 9)), none⟩,
    ⟨some 5, .p (.mov (.t 10)), none⟩] [0, 1, 5])
  c_law0_Still_k7
def c_law0_Still : VCode := .seq (.ops [⟨some 4, .p (.mov (.c (.bool false))), none⟩] [0, 1])
  c_law0_Still_k8
def r_law0_Still : List VR := [.tmp 4]
theorem t_law0_Still : Try.f13.body.bind (trC Try.prog Try.f13.ntmps) = some (er c_law0_Still) := by kernel_rfl
theorem w_law0_Still : trR Try.prog Try.f13.results.toList = some r_law0_Still := by kernel_rfl

/-! gitlike/gitlikelaw0.Same -/
def c_law0_Same_k1 : VCode := .seq (.block 1 (.seq (.draw 5 [⟨some 17, .p (.mov (.t 0)), none⟩,
    ⟨some 18, .p (.mov (.t 5)), none⟩,
    ⟨some 19, .p (.idxA 1 (.t 17) (.t 18)), none⟩,
    ⟨some 20, .p (.load false 1 (.t 19)), none⟩,
    ⟨some 21, .p (.mov (.t 1)), none⟩,
    ⟨some 22, .p (.mov (.t 5)), none⟩,
    ⟨some 23, .p (.idxA 1 (.t 21) (.t 22)), none⟩,
    ⟨some 24, .p (.load false 1 (.t 23)), none⟩,
    ⟨some 25, .p (.bin 5 .neq (.t 20) (.t 24)), none⟩] [0, 1, 5, 25])
  (.cond (.t 25)
  (.seq (.ops [⟨some 4, .p (.mov (.c (.bool false))), none⟩] [4])
    (.ret))
  (.skip))))
  (.ops [⟨some 15, .p (.mov (.t 5)), none⟩,
    ⟨some 16, .p (.bin 3 .add (.t 15) (.c (.int .i64 1))), none⟩,
    ⟨some 5, .p (.mov (.t 16)), none⟩] [0, 1, 5])
def c_law0_Same_L2 : VCode := .seq (.seq (.ops [⟨some 11, .p (.mov (.t 5)), none⟩,
    ⟨some 12, .p (.mov (.t 0)), none⟩,
    ⟨some 13, .p (.lenV (.t 12)), none⟩,
    ⟨some 14, .p (.bin 3 .lss (.t 11) (.t 13)), none⟩] [0, 1, 5, 14])
  (.cond (.t 14)
  (.skip)
  (.exit 0)))
  c_law0_Same_k1
def c_law0_Same_k3 : VCode := .block 0 (.loop [0, 1, 5] c_law0_Same_L2)
def c_law0_Same_k4 : VCode := .seq (.ops [⟨some 4, .p (.mov (.c (.bool true))), none⟩] [4])
  (.ret)
def c_law0_Same_k5 : VCode := .seq (.seq (.ops [⟨some 5, .p (.mov (.c (.int .i64 0))), none⟩] [0, 1, 5])
  c_law0_Same_k3)
  c_law0_Same_k4
def c_law0_Same_k6 : VCode := .seq (.seq (.ops [⟨some 6, .p (.mov (.t 0)), none⟩,
    ⟨some 7, .p (.lenV (.t 6)), none⟩,
    ⟨some 8, .p (.mov (.t 1)), none⟩,
    ⟨some 9, .p (.lenV (.t 8)), none⟩,
    ⟨some 10, .p (.bin 3 .neq (.t 7) (.t 9)), none⟩] [0, 1, 10])
  (.cond (.t 10)
  (.seq (.ops [⟨some 4, .p (.mov (.c (.bool false))), none⟩] [4])
    (.ret))
  (.skip)))
  c_law0_Same_k5
def c_law0_Same : VCode := .seq (.ops [⟨some 4, .p (.mov (.c (.bool false))), none⟩] [0, 1])
  c_law0_Same_k6
def r_law0_Same : List VR := [.tmp 4]
theorem t_law0_Same : Try.f30.body.bind (trC Try.prog Try.f30.ntmps) = some (er c_law0_Same) := by kernel_rfl
theorem w_law0_Same : trR Try.prog Try.f30.results.toList = some r_law0_Same := by kernel_rfl

end Go.Proofs.Ytknphdcjopaaoaa
