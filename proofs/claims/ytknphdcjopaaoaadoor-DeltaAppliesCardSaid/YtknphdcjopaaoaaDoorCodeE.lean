/- The code of some functions, as the machine of values has it: printed by vm.py out of the program; each is the program's own (t_..: by the kernel). -/
import Derived.Test.YtknphdcjopaaoaaDoorVmO
import Derived.Test.YtknphdcjopaaoaaDoorProg
import Derived.KernelRfl
namespace Go.Proofs.YtknphdcjopaaoaaDoor
set_option linter.unusedVariables false
set_option linter.defProp false
set_option maxRecDepth 100000

/-! gitlike/delta.Apply -/
def c_delta_Apply_b1 : VCode := .seq (.ops [⟨some 59, .p (.mov (.t 6)), none⟩,
    ⟨some 60, .p (.mov (.t 10)), none⟩,
    ⟨some 61, .p (.bin 3 .and (.t 60) (.c (.int .i64 ((15 : Nat) : Int)))), none⟩,
    ⟨some 62, .s (.call 39 [.t 59, .t 61]), none⟩,
    ⟨some 63, .p (.mov (.t 6)), none⟩,
    ⟨some 64, .p (.mov (.t 10)), none⟩,
    ⟨some 65, .p (.bin 3 .shr (.t 64) (.c (.int .u64 ((4 : Nat) : Int)))), none⟩,
    ⟨some 66, .p (.bin 3 .and (.t 65) (.c (.int .i64 ((7 : Nat) : Int)))), none⟩,
    ⟨some 67, .s (.call 39 [.t 63, .t 66]), none⟩,
    ⟨some 12, .p (.mov (.t 62)), none⟩,
    ⟨some 13, .p (.mov (.t 67)), none⟩] [0, 6, 8, 9, 10, 12, 13])
  (.seq (.seq (.ops [⟨some 68, .p (.mov (.t 13)), none⟩,
    ⟨some 69, .p (.bin 3 .eql (.t 68) (.c (.int .i64 ((0 : Nat) : Int)))), none⟩] [0, 6, 8, 9, 10, 12, 13, 69])
  (.cond (.t 69)
  (.ops [⟨some 13, .p (.mov (.c (.int .i64 ((65536 : Nat) : Int)))), none⟩] [0, 6, 8, 9, 10, 12, 13])
  (.skip)))
  (.ops [⟨some 70, .p (.mov (.t 0)), none⟩,
    ⟨some 11, .p (.mov (.t 70)), none⟩] [0, 6, 8, 9, 10, 11, 12, 13]))
def c_delta_Apply_k2 : VCode := .cond (.t 55)
  c_delta_Apply_b1
  (.skip)
def c_delta_Apply_b3 : VCode := .seq (.ops [⟨some 56, .p (.mov (.t 10)), none⟩,
    ⟨some 57, .p (.bin 3 .and (.t 56) (.c (.int .i64 ((128 : Nat) : Int)))), none⟩,
    ⟨some 58, .p (.bin 3 .gtr (.t 57) (.c (.int .i64 ((0 : Nat) : Int)))), none⟩,
    ⟨some 55, .p (.mov (.t 58)), none⟩] [0, 6, 8, 9, 10, 11, 12, 13, 55])
  c_delta_Apply_k2
def c_delta_Apply_k4 : VCode := .cond (.t 51)
  (.seq (.ops [⟨some 54, .p (.iface 30 (.c (.int .i64 ((30 : Nat) : Int)))), none⟩,
      ⟨some 4, .p (.mov (.c (.slice none 0 0))), none⟩,
      ⟨some 5, .p (.mov (.t 54)), none⟩] [4, 5])
    (.ret))
  c_delta_Apply_b3
def c_delta_Apply_b5 : VCode := .ops [⟨some 103, .p (.mov (.t 6)), none⟩,
    ⟨some 104, .p (.mov (.t 6)), none⟩,
    ⟨some 105, .p (.nilc (.t 104)), none⟩,
    ⟨some 106, .p (.fieldA 0 0 (.t 105)), none⟩,
    ⟨some 107, .p (.load false 1 (.t 106)), none⟩,
    ⟨some 108, .p (.mov (.t 13)), none⟩,
    ⟨some 109, .p (.slV 1 (.t 107) (some (.t 108)) none), none⟩,
    ⟨some 110, .p (.nilc (.t 103)), none⟩,
    ⟨some 111, .p (.fieldA 0 0 (.t 110)), none⟩,
    ⟨none, .s (.store 1 (.t 111) (.t 109)), none⟩] [0, 6, 8, 9]
def c_delta_Apply_k6 : VCode := .seq (.ops [⟨some 100, .p (.mov (.t 10)), none⟩,
    ⟨some 101, .p (.bin 3 .and (.t 100) (.c (.int .i64 ((128 : Nat) : Int)))), none⟩,
    ⟨some 102, .p (.bin 3 .eql (.t 101) (.c (.int .i64 ((0 : Nat) : Int)))), none⟩] [0, 6, 8, 9, 13, 102])
  (.cond (.t 102)
  c_delta_Apply_b5
  (.skip))
def c_delta_Apply_k7 : VCode := .seq (.ops [⟨some 92, .p (.mov (.t 9)), none⟩,
    ⟨some 93, .p (.mov (.t 11)), none⟩,
    ⟨some 94, .p (.mov (.t 12)), none⟩,
    ⟨some 95, .p (.mov (.t 12)), none⟩,
    ⟨some 96, .p (.mov (.t 13)), none⟩,
    ⟨some 97, .p (.bin 3 .add (.t 95) (.t 96)), none⟩,
    ⟨some 98, .p (.slV 1 (.t 93) (some (.t 94)) (some (.t 97))), none⟩,
    ⟨some 99, .s (.app 1 1 (.t 92) (.t 98)), none⟩,
    ⟨some 9, .p (.mov (.t 99)), none⟩] [0, 6, 8, 9, 10, 13])
  c_delta_Apply_k6
def c_delta_Apply_k8 : VCode := .seq (.seq (.ops [⟨some 71, .p (.mov (.t 6)), none⟩,
    ⟨some 72, .p (.nilc (.t 71)), none⟩,
    ⟨some 73, .p (.fieldA 1 1 (.t 72)), none⟩,
    ⟨some 74, .p (.load false 1 (.t 73)), none⟩,
    ⟨some 75, .p (.mov (.t 74)), none⟩,
    ⟨some 76, .p (.mov (.t 13)), some ⟨75, false⟩⟩,
    ⟨some 77, .p (.mov (.t 11)), some ⟨75, false⟩⟩,
    ⟨some 78, .p (.lenV (.t 77)), some ⟨75, false⟩⟩,
    ⟨some 79, .p (.mov (.t 12)), some ⟨75, false⟩⟩,
    ⟨some 80, .p (.bin 3 .sub (.t 78) (.t 79)), some ⟨75, false⟩⟩,
    ⟨some 81, .p (.bin 3 .gtr (.t 76) (.t 80)), some ⟨75, false⟩⟩,
    ⟨some 82, .p (.pick (.t 75) (.c (.bool true)) (.t 81)), none⟩,
    ⟨some 83, .p (.mov (.t 82)), none⟩,
    ⟨some 84, .p (.mov (.t 9)), some ⟨83, false⟩⟩,
    ⟨some 85, .p (.lenV (.t 84)), some ⟨83, false⟩⟩,
    ⟨some 86, .p (.mov (.t 13)), some ⟨83, false⟩⟩,
    ⟨some 87, .p (.bin 3 .add (.t 85) (.t 86)), some ⟨83, false⟩⟩,
    ⟨some 88, .p (.mov (.t 8)), some ⟨83, false⟩⟩,
    ⟨some 89, .p (.bin 3 .gtr (.t 87) (.t 88)), some ⟨83, false⟩⟩,
    ⟨some 90, .p (.pick (.t 83) (.c (.bool true)) (.t 89)), none⟩] [0, 6, 8, 9, 10, 11, 12, 13, 90])
  (.cond (.t 90)
  (.seq (.ops [⟨some 91, .p (.iface 30 (.c (.int .i64 ((30 : Nat) : Int)))), none⟩,
      ⟨some 4, .p (.mov (.c (.slice none 0 0))), none⟩,
      ⟨some 5, .p (.mov (.t 91)), none⟩] [4, 5])
    (.ret))
  (.skip)))
  c_delta_Apply_k7
def c_delta_Apply_k9 : VCode := .seq (.block 2 (.seq (.ops [⟨some 52, .p (.mov (.t 10)), none⟩,
    ⟨some 53, .p (.bin 3 .eql (.t 52) (.c (.int .i64 ((0 : Nat) : Int)))), none⟩,
    ⟨some 51, .p (.mov (.t 53)), none⟩] [0, 6, 8, 9, 10, 11, 12, 13, 51])
  c_delta_Apply_k4))
  c_delta_Apply_k8
def c_delta_Apply_k10 : VCode := .seq (.ops [⟨some 46, .p (.mov (.t 6)), none⟩,
    ⟨some 47, .p (.nilc (.t 46)), none⟩,
    ⟨some 48, .p (.fieldA 0 0 (.t 47)), none⟩,
    ⟨some 49, .p (.load false 1 (.t 48)), none⟩,
    ⟨some 50, .p (.mov (.t 10)), none⟩,
    ⟨some 11, .p (.mov (.t 49)), none⟩,
    ⟨some 12, .p (.mov (.c (.int .i64 ((0 : Nat) : Int)))), none⟩,
    ⟨some 13, .p (.mov (.t 50)), none⟩] [0, 6, 8, 9, 10, 11, 12, 13])
  c_delta_Apply_k9
def c_delta_Apply_k11 : VCode := .block 1 (.seq (.ops [⟨some 44, .p (.mov (.t 6)), none⟩,
    ⟨some 45, .s (.call 38 [.t 44]), none⟩,
    ⟨some 10, .p (.mov (.t 45)), none⟩] [0, 6, 8, 9, 10])
  c_delta_Apply_k10)
def c_delta_Apply_L12 : VCode := .seq (.seq (.ops [⟨some 38, .p (.mov (.t 6)), none⟩,
    ⟨some 39, .p (.nilc (.t 38)), none⟩,
    ⟨some 40, .p (.fieldA 0 0 (.t 39)), none⟩,
    ⟨some 41, .p (.load false 1 (.t 40)), none⟩,
    ⟨some 42, .p (.lenV (.t 41)), none⟩,
    ⟨some 43, .p (.bin 3 .gtr (.t 42) (.c (.int .i64 ((0 : Nat) : Int)))), none⟩] [0, 6, 8, 9, 43])
  (.cond (.t 43)
  (.skip)
  (.exit 0)))
  c_delta_Apply_k11
def c_delta_Apply_k13 : VCode := .seq (.seq (.ops [⟨some 112, .p (.mov (.t 9)), none⟩,
    ⟨some 113, .p (.lenV (.t 112)), none⟩,
    ⟨some 114, .p (.mov (.t 8)), none⟩,
    ⟨some 115, .p (.bin 3 .neq (.t 113) (.t 114)), none⟩] [9, 115])
  (.cond (.t 115)
  (.seq (.ops [⟨some 116, .p (.iface 30 (.c (.int .i64 ((30 : Nat) : Int)))), none⟩,
      ⟨some 4, .p (.mov (.c (.slice none 0 0))), none⟩,
      ⟨some 5, .p (.mov (.t 116)), none⟩] [4, 5])
    (.ret))
  (.skip)))
  (.seq (.ops [⟨some 117, .p (.mov (.t 9)), none⟩,
    ⟨some 4, .p (.mov (.t 117)), none⟩,
    ⟨some 5, .p (.mov (.c .nilIface)), none⟩] [4, 5])
  (.ret))
def c_delta_Apply_k14 : VCode := .seq (.block 0 (.own 9 1 (.loop [0, 6, 8, 9] c_delta_Apply_L12)))
  c_delta_Apply_k13
def c_delta_Apply_k15 : VCode := .seq (.ops [⟨some 36, .p (.mov (.t 8)), none⟩,
    ⟨some 37, .s (.mks 1 1 (.val (.int .u8 ((0 : Nat) : Int))) (.c (.int .i64 ((0 : Nat) : Int))) (.t 36)), none⟩,
    ⟨some 9, .p (.mov (.t 37)), none⟩] [0, 6, 8, 9])
  c_delta_Apply_k14
def c_delta_Apply_k16 : VCode := .seq (.seq (.ops [⟨some 21, .p (.mov (.t 6)), none⟩,
    ⟨some 22, .p (.nilc (.t 21)), none⟩,
    ⟨some 23, .p (.fieldA 1 1 (.t 22)), none⟩,
    ⟨some 24, .p (.load false 1 (.t 23)), none⟩,
    ⟨some 25, .p (.mov (.t 24)), none⟩,
    ⟨some 26, .p (.mov (.t 7)), some ⟨25, false⟩⟩,
    ⟨some 27, .p (.mov (.t 0)), some ⟨25, false⟩⟩,
    ⟨some 28, .p (.lenV (.t 27)), some ⟨25, false⟩⟩,
    ⟨some 29, .p (.bin 3 .neq (.t 26) (.t 28)), some ⟨25, false⟩⟩,
    ⟨some 30, .p (.pick (.t 25) (.c (.bool true)) (.t 29)), none⟩,
    ⟨some 31, .p (.mov (.t 30)), none⟩,
    ⟨some 32, .p (.mov (.t 8)), some ⟨31, false⟩⟩,
    ⟨some 33, .p (.bin 3 .gtr (.t 32) (.c (.int .i64 ((100000 : Nat) : Int)))), some ⟨31, false⟩⟩,
    ⟨some 34, .p (.pick (.t 31) (.c (.bool true)) (.t 33)), none⟩] [0, 6, 8, 34])
  (.cond (.t 34)
  (.seq (.ops [⟨some 35, .p (.iface 30 (.c (.int .i64 ((30 : Nat) : Int)))), none⟩,
      ⟨some 4, .p (.mov (.c (.slice none 0 0))), none⟩,
      ⟨some 5, .p (.mov (.t 35)), none⟩] [4, 5])
    (.ret))
  (.skip)))
  c_delta_Apply_k15
def c_delta_Apply_k17 : VCode := .seq (.ops [⟨some 17, .p (.mov (.t 6)), none⟩,
    ⟨some 18, .s (.call 37 [.t 17]), none⟩,
    ⟨some 19, .p (.mov (.t 6)), none⟩,
    ⟨some 20, .s (.call 37 [.t 19]), none⟩,
    ⟨some 7, .p (.mov (.t 18)), none⟩,
    ⟨some 8, .p (.mov (.t 20)), none⟩] [0, 6, 7, 8])
  c_delta_Apply_k16
def c_delta_Apply_k18 : VCode := .seq (.ops [⟨some 14, .p (.mov (.t 1)), none⟩,
    ⟨some 15, .p (.build [.val (.slice none 0 0), .val (.bool false)] [1, 1] [⟨0, .t 14⟩]), none⟩,
    ⟨some 16, .s (.box (.t 15)), none⟩,
    ⟨some 6, .p (.mov (.t 16)), none⟩] [0, 6])
  c_delta_Apply_k17
def c_delta_Apply : VCode := .seq (.ops [⟨some 4, .p (.mov (.c (.slice none 0 0))), none⟩,
    ⟨some 5, .p (.mov (.c .nilIface)), none⟩] [0, 1])
  c_delta_Apply_k18
def r_delta_Apply : List VR := [.tmp 4, .tmp 5]
theorem t_delta_Apply : Tryd.f18.body.bind (trC Tryd.prog Tryd.f18.ntmps) = some (er c_delta_Apply) := by kernel_rfl
theorem w_delta_Apply : trR Tryd.prog Tryd.f18.results.toList = some r_delta_Apply := by kernel_rfl
theorem u_delta_Apply_b1_e {P : Program} {Q : VEx → Env → List Ob → Prop} {e : Env} {H : List Ob} : vwp P c_delta_Apply_b1 Q e H = vwp P (.seq (.ops [⟨some 59, .p (.mov (.t 6)), none⟩,
    ⟨some 60, .p (.mov (.t 10)), none⟩,
    ⟨some 61, .p (.bin 3 .and (.t 60) (.c (.int .i64 ((15 : Nat) : Int)))), none⟩,
    ⟨some 62, .s (.call 39 [.t 59, .t 61]), none⟩,
    ⟨some 63, .p (.mov (.t 6)), none⟩,
    ⟨some 64, .p (.mov (.t 10)), none⟩,
    ⟨some 65, .p (.bin 3 .shr (.t 64) (.c (.int .u64 ((4 : Nat) : Int)))), none⟩,
    ⟨some 66, .p (.bin 3 .and (.t 65) (.c (.int .i64 ((7 : Nat) : Int)))), none⟩,
    ⟨some 67, .s (.call 39 [.t 63, .t 66]), none⟩,
    ⟨some 12, .p (.mov (.t 62)), none⟩,
    ⟨some 13, .p (.mov (.t 67)), none⟩] [0, 6, 8, 9, 10, 12, 13])
  (.seq (.seq (.ops [⟨some 68, .p (.mov (.t 13)), none⟩,
    ⟨some 69, .p (.bin 3 .eql (.t 68) (.c (.int .i64 ((0 : Nat) : Int)))), none⟩] [0, 6, 8, 9, 10, 12, 13, 69])
  (.cond (.t 69)
  (.ops [⟨some 13, .p (.mov (.c (.int .i64 ((65536 : Nat) : Int)))), none⟩] [0, 6, 8, 9, 10, 12, 13])
  (.skip)))
  (.ops [⟨some 70, .p (.mov (.t 0)), none⟩,
    ⟨some 11, .p (.mov (.t 70)), none⟩] [0, 6, 8, 9, 10, 11, 12, 13]))) Q e H := by_refl rfl
theorem u_delta_Apply_k2_e {P : Program} {Q : VEx → Env → List Ob → Prop} {e : Env} {H : List Ob} : vwp P c_delta_Apply_k2 Q e H = vwp P (.cond (.t 55)
  c_delta_Apply_b1
  (.skip)) Q e H := by_refl rfl
theorem u_delta_Apply_b3_e {P : Program} {Q : VEx → Env → List Ob → Prop} {e : Env} {H : List Ob} : vwp P c_delta_Apply_b3 Q e H = vwp P (.seq (.ops [⟨some 56, .p (.mov (.t 10)), none⟩,
    ⟨some 57, .p (.bin 3 .and (.t 56) (.c (.int .i64 ((128 : Nat) : Int)))), none⟩,
    ⟨some 58, .p (.bin 3 .gtr (.t 57) (.c (.int .i64 ((0 : Nat) : Int)))), none⟩,
    ⟨some 55, .p (.mov (.t 58)), none⟩] [0, 6, 8, 9, 10, 11, 12, 13, 55])
  c_delta_Apply_k2) Q e H := by_refl rfl
theorem u_delta_Apply_k4_e {P : Program} {Q : VEx → Env → List Ob → Prop} {e : Env} {H : List Ob} : vwp P c_delta_Apply_k4 Q e H = vwp P (.cond (.t 51)
  (.seq (.ops [⟨some 54, .p (.iface 30 (.c (.int .i64 ((30 : Nat) : Int)))), none⟩,
      ⟨some 4, .p (.mov (.c (.slice none 0 0))), none⟩,
      ⟨some 5, .p (.mov (.t 54)), none⟩] [4, 5])
    (.ret))
  c_delta_Apply_b3) Q e H := by_refl rfl
theorem u_delta_Apply_b5_e {P : Program} {Q : VEx → Env → List Ob → Prop} {e : Env} {H : List Ob} : vwp P c_delta_Apply_b5 Q e H = vwp P (.ops [⟨some 103, .p (.mov (.t 6)), none⟩,
    ⟨some 104, .p (.mov (.t 6)), none⟩,
    ⟨some 105, .p (.nilc (.t 104)), none⟩,
    ⟨some 106, .p (.fieldA 0 0 (.t 105)), none⟩,
    ⟨some 107, .p (.load false 1 (.t 106)), none⟩,
    ⟨some 108, .p (.mov (.t 13)), none⟩,
    ⟨some 109, .p (.slV 1 (.t 107) (some (.t 108)) none), none⟩,
    ⟨some 110, .p (.nilc (.t 103)), none⟩,
    ⟨some 111, .p (.fieldA 0 0 (.t 110)), none⟩,
    ⟨none, .s (.store 1 (.t 111) (.t 109)), none⟩] [0, 6, 8, 9]) Q e H := by_refl rfl
theorem u_delta_Apply_k6_e {P : Program} {Q : VEx → Env → List Ob → Prop} {e : Env} {H : List Ob} : vwp P c_delta_Apply_k6 Q e H = vwp P (.seq (.ops [⟨some 100, .p (.mov (.t 10)), none⟩,
    ⟨some 101, .p (.bin 3 .and (.t 100) (.c (.int .i64 ((128 : Nat) : Int)))), none⟩,
    ⟨some 102, .p (.bin 3 .eql (.t 101) (.c (.int .i64 ((0 : Nat) : Int)))), none⟩] [0, 6, 8, 9, 13, 102])
  (.cond (.t 102)
  c_delta_Apply_b5
  (.skip))) Q e H := by_refl rfl
theorem u_delta_Apply_k7_e {P : Program} {Q : VEx → Env → List Ob → Prop} {e : Env} {H : List Ob} : vwp P c_delta_Apply_k7 Q e H = vwp P (.seq (.ops [⟨some 92, .p (.mov (.t 9)), none⟩,
    ⟨some 93, .p (.mov (.t 11)), none⟩,
    ⟨some 94, .p (.mov (.t 12)), none⟩,
    ⟨some 95, .p (.mov (.t 12)), none⟩,
    ⟨some 96, .p (.mov (.t 13)), none⟩,
    ⟨some 97, .p (.bin 3 .add (.t 95) (.t 96)), none⟩,
    ⟨some 98, .p (.slV 1 (.t 93) (some (.t 94)) (some (.t 97))), none⟩,
    ⟨some 99, .s (.app 1 1 (.t 92) (.t 98)), none⟩,
    ⟨some 9, .p (.mov (.t 99)), none⟩] [0, 6, 8, 9, 10, 13])
  c_delta_Apply_k6) Q e H := by_refl rfl
theorem u_delta_Apply_k8_e {P : Program} {Q : VEx → Env → List Ob → Prop} {e : Env} {H : List Ob} : vwp P c_delta_Apply_k8 Q e H = vwp P (.seq (.seq (.ops [⟨some 71, .p (.mov (.t 6)), none⟩,
    ⟨some 72, .p (.nilc (.t 71)), none⟩,
    ⟨some 73, .p (.fieldA 1 1 (.t 72)), none⟩,
    ⟨some 74, .p (.load false 1 (.t 73)), none⟩,
    ⟨some 75, .p (.mov (.t 74)), none⟩,
    ⟨some 76, .p (.mov (.t 13)), some ⟨75, false⟩⟩,
    ⟨some 77, .p (.mov (.t 11)), some ⟨75, false⟩⟩,
    ⟨some 78, .p (.lenV (.t 77)), some ⟨75, false⟩⟩,
    ⟨some 79, .p (.mov (.t 12)), some ⟨75, false⟩⟩,
    ⟨some 80, .p (.bin 3 .sub (.t 78) (.t 79)), some ⟨75, false⟩⟩,
    ⟨some 81, .p (.bin 3 .gtr (.t 76) (.t 80)), some ⟨75, false⟩⟩,
    ⟨some 82, .p (.pick (.t 75) (.c (.bool true)) (.t 81)), none⟩,
    ⟨some 83, .p (.mov (.t 82)), none⟩,
    ⟨some 84, .p (.mov (.t 9)), some ⟨83, false⟩⟩,
    ⟨some 85, .p (.lenV (.t 84)), some ⟨83, false⟩⟩,
    ⟨some 86, .p (.mov (.t 13)), some ⟨83, false⟩⟩,
    ⟨some 87, .p (.bin 3 .add (.t 85) (.t 86)), some ⟨83, false⟩⟩,
    ⟨some 88, .p (.mov (.t 8)), some ⟨83, false⟩⟩,
    ⟨some 89, .p (.bin 3 .gtr (.t 87) (.t 88)), some ⟨83, false⟩⟩,
    ⟨some 90, .p (.pick (.t 83) (.c (.bool true)) (.t 89)), none⟩] [0, 6, 8, 9, 10, 11, 12, 13, 90])
  (.cond (.t 90)
  (.seq (.ops [⟨some 91, .p (.iface 30 (.c (.int .i64 ((30 : Nat) : Int)))), none⟩,
      ⟨some 4, .p (.mov (.c (.slice none 0 0))), none⟩,
      ⟨some 5, .p (.mov (.t 91)), none⟩] [4, 5])
    (.ret))
  (.skip)))
  c_delta_Apply_k7) Q e H := by_refl rfl
theorem u_delta_Apply_k9_e {P : Program} {Q : VEx → Env → List Ob → Prop} {e : Env} {H : List Ob} : vwp P c_delta_Apply_k9 Q e H = vwp P (.seq (.block 2 (.seq (.ops [⟨some 52, .p (.mov (.t 10)), none⟩,
    ⟨some 53, .p (.bin 3 .eql (.t 52) (.c (.int .i64 ((0 : Nat) : Int)))), none⟩,
    ⟨some 51, .p (.mov (.t 53)), none⟩] [0, 6, 8, 9, 10, 11, 12, 13, 51])
  c_delta_Apply_k4))
  c_delta_Apply_k8) Q e H := by_refl rfl
theorem u_delta_Apply_k10_e {P : Program} {Q : VEx → Env → List Ob → Prop} {e : Env} {H : List Ob} : vwp P c_delta_Apply_k10 Q e H = vwp P (.seq (.ops [⟨some 46, .p (.mov (.t 6)), none⟩,
    ⟨some 47, .p (.nilc (.t 46)), none⟩,
    ⟨some 48, .p (.fieldA 0 0 (.t 47)), none⟩,
    ⟨some 49, .p (.load false 1 (.t 48)), none⟩,
    ⟨some 50, .p (.mov (.t 10)), none⟩,
    ⟨some 11, .p (.mov (.t 49)), none⟩,
    ⟨some 12, .p (.mov (.c (.int .i64 ((0 : Nat) : Int)))), none⟩,
    ⟨some 13, .p (.mov (.t 50)), none⟩] [0, 6, 8, 9, 10, 11, 12, 13])
  c_delta_Apply_k9) Q e H := by_refl rfl
theorem u_delta_Apply_k11_e {P : Program} {Q : VEx → Env → List Ob → Prop} {e : Env} {H : List Ob} : vwp P c_delta_Apply_k11 Q e H = vwp P (.block 1 (.seq (.ops [⟨some 44, .p (.mov (.t 6)), none⟩,
    ⟨some 45, .s (.call 38 [.t 44]), none⟩,
    ⟨some 10, .p (.mov (.t 45)), none⟩] [0, 6, 8, 9, 10])
  c_delta_Apply_k10)) Q e H := by_refl rfl
theorem u_delta_Apply_L12_e {P : Program} {Q : VEx → Env → List Ob → Prop} {e : Env} {H : List Ob} : vwp P c_delta_Apply_L12 Q e H = vwp P (.seq (.seq (.ops [⟨some 38, .p (.mov (.t 6)), none⟩,
    ⟨some 39, .p (.nilc (.t 38)), none⟩,
    ⟨some 40, .p (.fieldA 0 0 (.t 39)), none⟩,
    ⟨some 41, .p (.load false 1 (.t 40)), none⟩,
    ⟨some 42, .p (.lenV (.t 41)), none⟩,
    ⟨some 43, .p (.bin 3 .gtr (.t 42) (.c (.int .i64 ((0 : Nat) : Int)))), none⟩] [0, 6, 8, 9, 43])
  (.cond (.t 43)
  (.skip)
  (.exit 0)))
  c_delta_Apply_k11) Q e H := by_refl rfl
theorem u_delta_Apply_k13_e {P : Program} {Q : VEx → Env → List Ob → Prop} {e : Env} {H : List Ob} : vwp P c_delta_Apply_k13 Q e H = vwp P (.seq (.seq (.ops [⟨some 112, .p (.mov (.t 9)), none⟩,
    ⟨some 113, .p (.lenV (.t 112)), none⟩,
    ⟨some 114, .p (.mov (.t 8)), none⟩,
    ⟨some 115, .p (.bin 3 .neq (.t 113) (.t 114)), none⟩] [9, 115])
  (.cond (.t 115)
  (.seq (.ops [⟨some 116, .p (.iface 30 (.c (.int .i64 ((30 : Nat) : Int)))), none⟩,
      ⟨some 4, .p (.mov (.c (.slice none 0 0))), none⟩,
      ⟨some 5, .p (.mov (.t 116)), none⟩] [4, 5])
    (.ret))
  (.skip)))
  (.seq (.ops [⟨some 117, .p (.mov (.t 9)), none⟩,
    ⟨some 4, .p (.mov (.t 117)), none⟩,
    ⟨some 5, .p (.mov (.c .nilIface)), none⟩] [4, 5])
  (.ret))) Q e H := by_refl rfl
theorem u_delta_Apply_k14_e {P : Program} {Q : VEx → Env → List Ob → Prop} {e : Env} {H : List Ob} : vwp P c_delta_Apply_k14 Q e H = vwp P (.seq (.block 0 (.own 9 1 (.loop [0, 6, 8, 9] c_delta_Apply_L12)))
  c_delta_Apply_k13) Q e H := by_refl rfl
theorem u_delta_Apply_k15_e {P : Program} {Q : VEx → Env → List Ob → Prop} {e : Env} {H : List Ob} : vwp P c_delta_Apply_k15 Q e H = vwp P (.seq (.ops [⟨some 36, .p (.mov (.t 8)), none⟩,
    ⟨some 37, .s (.mks 1 1 (.val (.int .u8 ((0 : Nat) : Int))) (.c (.int .i64 ((0 : Nat) : Int))) (.t 36)), none⟩,
    ⟨some 9, .p (.mov (.t 37)), none⟩] [0, 6, 8, 9])
  c_delta_Apply_k14) Q e H := by_refl rfl
theorem u_delta_Apply_k16_e {P : Program} {Q : VEx → Env → List Ob → Prop} {e : Env} {H : List Ob} : vwp P c_delta_Apply_k16 Q e H = vwp P (.seq (.seq (.ops [⟨some 21, .p (.mov (.t 6)), none⟩,
    ⟨some 22, .p (.nilc (.t 21)), none⟩,
    ⟨some 23, .p (.fieldA 1 1 (.t 22)), none⟩,
    ⟨some 24, .p (.load false 1 (.t 23)), none⟩,
    ⟨some 25, .p (.mov (.t 24)), none⟩,
    ⟨some 26, .p (.mov (.t 7)), some ⟨25, false⟩⟩,
    ⟨some 27, .p (.mov (.t 0)), some ⟨25, false⟩⟩,
    ⟨some 28, .p (.lenV (.t 27)), some ⟨25, false⟩⟩,
    ⟨some 29, .p (.bin 3 .neq (.t 26) (.t 28)), some ⟨25, false⟩⟩,
    ⟨some 30, .p (.pick (.t 25) (.c (.bool true)) (.t 29)), none⟩,
    ⟨some 31, .p (.mov (.t 30)), none⟩,
    ⟨some 32, .p (.mov (.t 8)), some ⟨31, false⟩⟩,
    ⟨some 33, .p (.bin 3 .gtr (.t 32) (.c (.int .i64 ((100000 : Nat) : Int)))), some ⟨31, false⟩⟩,
    ⟨some 34, .p (.pick (.t 31) (.c (.bool true)) (.t 33)), none⟩] [0, 6, 8, 34])
  (.cond (.t 34)
  (.seq (.ops [⟨some 35, .p (.iface 30 (.c (.int .i64 ((30 : Nat) : Int)))), none⟩,
      ⟨some 4, .p (.mov (.c (.slice none 0 0))), none⟩,
      ⟨some 5, .p (.mov (.t 35)), none⟩] [4, 5])
    (.ret))
  (.skip)))
  c_delta_Apply_k15) Q e H := by_refl rfl
theorem u_delta_Apply_k17_e {P : Program} {Q : VEx → Env → List Ob → Prop} {e : Env} {H : List Ob} : vwp P c_delta_Apply_k17 Q e H = vwp P (.seq (.ops [⟨some 17, .p (.mov (.t 6)), none⟩,
    ⟨some 18, .s (.call 37 [.t 17]), none⟩,
    ⟨some 19, .p (.mov (.t 6)), none⟩,
    ⟨some 20, .s (.call 37 [.t 19]), none⟩,
    ⟨some 7, .p (.mov (.t 18)), none⟩,
    ⟨some 8, .p (.mov (.t 20)), none⟩] [0, 6, 7, 8])
  c_delta_Apply_k16) Q e H := by_refl rfl
theorem u_delta_Apply_k18_e {P : Program} {Q : VEx → Env → List Ob → Prop} {e : Env} {H : List Ob} : vwp P c_delta_Apply_k18 Q e H = vwp P (.seq (.ops [⟨some 14, .p (.mov (.t 1)), none⟩,
    ⟨some 15, .p (.build [.val (.slice none 0 0), .val (.bool false)] [1, 1] [⟨0, .t 14⟩]), none⟩,
    ⟨some 16, .s (.box (.t 15)), none⟩,
    ⟨some 6, .p (.mov (.t 16)), none⟩] [0, 6])
  c_delta_Apply_k17) Q e H := by_refl rfl
theorem u_delta_Apply_e {P : Program} {Q : VEx → Env → List Ob → Prop} {e : Env} {H : List Ob} : vwp P c_delta_Apply Q e H = vwp P (.seq (.ops [⟨some 4, .p (.mov (.c (.slice none 0 0))), none⟩,
    ⟨some 5, .p (.mov (.c .nilIface)), none⟩] [0, 1])
  c_delta_Apply_k18) Q e H := by_refl rfl
theorem u_delta_Apply_r {K : TV → Prop} {e : Env} {H : List Ob} : res r_delta_Apply e H K = res [.tmp 4, .tmp 5] e H K := by_refl rfl
def u_delta_Apply := (And.intro (And.intro (And.intro (And.intro (And.intro @u_delta_Apply_b1_e @u_delta_Apply_k2_e) (And.intro @u_delta_Apply_b3_e @u_delta_Apply_k4_e)) (And.intro (And.intro @u_delta_Apply_b5_e @u_delta_Apply_k6_e) (And.intro @u_delta_Apply_k7_e @u_delta_Apply_k8_e))) (And.intro (And.intro (And.intro @u_delta_Apply_k9_e @u_delta_Apply_k10_e) (And.intro @u_delta_Apply_k11_e @u_delta_Apply_L12_e)) (And.intro (And.intro @u_delta_Apply_k13_e @u_delta_Apply_k14_e) (And.intro @u_delta_Apply_k15_e @u_delta_Apply_k16_e)))) (And.intro (And.intro @u_delta_Apply_k17_e @u_delta_Apply_k18_e) (And.intro @u_delta_Apply_e @u_delta_Apply_r)))
theorem go_delta_Apply {args : List TV} {H : List Ob} {R : TV → List Ob → Prop} (hn : args.length ≤ 118) (h : vwp Tryd.prog c_delta_Apply (atEnd r_delta_Apply R) (argsE 0 args) H) : VCalls Tryd.prog 18 args H R := vcalls_of Tryd.func18 t_delta_Apply w_delta_Apply hn h

/-! gitlike/delta.Sizes -/
def c_delta_Sizes_k1 : VCode := .seq (.seq (.ops [⟨some 13, .p (.mov (.t 5)), none⟩,
    ⟨some 14, .p (.nilc (.t 13)), none⟩,
    ⟨some 15, .p (.fieldA 1 1 (.t 14)), none⟩,
    ⟨some 16, .p (.load false 1 (.t 15)), none⟩] [2, 3, 16])
  (.cond (.t 16)
  (.seq (.ops [⟨some 17, .p (.iface 30 (.c (.int .i64 ((30 : Nat) : Int)))), none⟩,
      ⟨some 2, .p (.mov (.c (.int .i64 ((0 : Nat) : Int)))), none⟩,
      ⟨some 3, .p (.mov (.c (.int .i64 ((0 : Nat) : Int)))), none⟩,
      ⟨some 4, .p (.mov (.t 17)), none⟩] [2, 3, 4])
    (.ret))
  (.skip)))
  (.seq (.ops [⟨some 18, .p (.mov (.t 2)), none⟩,
    ⟨some 19, .p (.mov (.t 3)), none⟩,
    ⟨some 2, .p (.mov (.t 18)), none⟩,
    ⟨some 3, .p (.mov (.t 19)), none⟩,
    ⟨some 4, .p (.mov (.c .nilIface)), none⟩] [2, 3, 4])
  (.ret))
def c_delta_Sizes_k2 : VCode := .seq (.ops [⟨some 9, .p (.mov (.t 5)), none⟩,
    ⟨some 10, .s (.call 37 [.t 9]), none⟩,
    ⟨some 11, .p (.mov (.t 5)), none⟩,
    ⟨some 12, .s (.call 37 [.t 11]), none⟩,
    ⟨some 2, .p (.mov (.t 10)), none⟩,
    ⟨some 3, .p (.mov (.t 12)), none⟩] [2, 3, 5])
  c_delta_Sizes_k1
def c_delta_Sizes_k3 : VCode := .seq (.ops [⟨some 6, .p (.mov (.t 0)), none⟩,
    ⟨some 7, .p (.build [.val (.slice none 0 0), .val (.bool false)] [1, 1] [⟨0, .t 6⟩]), none⟩,
    ⟨some 8, .s (.box (.t 7)), none⟩,
    ⟨some 5, .p (.mov (.t 8)), none⟩] [5])
  c_delta_Sizes_k2
def c_delta_Sizes : VCode := .seq (.ops [⟨some 2, .p (.mov (.c (.int .i64 ((0 : Nat) : Int)))), none⟩,
    ⟨some 3, .p (.mov (.c (.int .i64 ((0 : Nat) : Int)))), none⟩,
    ⟨some 4, .p (.mov (.c .nilIface)), none⟩] [0])
  c_delta_Sizes_k3
def r_delta_Sizes : List VR := [.tmp 2, .tmp 3, .tmp 4]
theorem t_delta_Sizes : Tryd.f19.body.bind (trC Tryd.prog Tryd.f19.ntmps) = some (er c_delta_Sizes) := by kernel_rfl
theorem w_delta_Sizes : trR Tryd.prog Tryd.f19.results.toList = some r_delta_Sizes := by kernel_rfl
theorem u_delta_Sizes_k1_e {P : Program} {Q : VEx → Env → List Ob → Prop} {e : Env} {H : List Ob} : vwp P c_delta_Sizes_k1 Q e H = vwp P (.seq (.seq (.ops [⟨some 13, .p (.mov (.t 5)), none⟩,
    ⟨some 14, .p (.nilc (.t 13)), none⟩,
    ⟨some 15, .p (.fieldA 1 1 (.t 14)), none⟩,
    ⟨some 16, .p (.load false 1 (.t 15)), none⟩] [2, 3, 16])
  (.cond (.t 16)
  (.seq (.ops [⟨some 17, .p (.iface 30 (.c (.int .i64 ((30 : Nat) : Int)))), none⟩,
      ⟨some 2, .p (.mov (.c (.int .i64 ((0 : Nat) : Int)))), none⟩,
      ⟨some 3, .p (.mov (.c (.int .i64 ((0 : Nat) : Int)))), none⟩,
      ⟨some 4, .p (.mov (.t 17)), none⟩] [2, 3, 4])
    (.ret))
  (.skip)))
  (.seq (.ops [⟨some 18, .p (.mov (.t 2)), none⟩,
    ⟨some 19, .p (.mov (.t 3)), none⟩,
    ⟨some 2, .p (.mov (.t 18)), none⟩,
    ⟨some 3, .p (.mov (.t 19)), none⟩,
    ⟨some 4, .p (.mov (.c .nilIface)), none⟩] [2, 3, 4])
  (.ret))) Q e H := by_refl rfl
theorem u_delta_Sizes_k2_e {P : Program} {Q : VEx → Env → List Ob → Prop} {e : Env} {H : List Ob} : vwp P c_delta_Sizes_k2 Q e H = vwp P (.seq (.ops [⟨some 9, .p (.mov (.t 5)), none⟩,
    ⟨some 10, .s (.call 37 [.t 9]), none⟩,
    ⟨some 11, .p (.mov (.t 5)), none⟩,
    ⟨some 12, .s (.call 37 [.t 11]), none⟩,
    ⟨some 2, .p (.mov (.t 10)), none⟩,
    ⟨some 3, .p (.mov (.t 12)), none⟩] [2, 3, 5])
  c_delta_Sizes_k1) Q e H := by_refl rfl
theorem u_delta_Sizes_k3_e {P : Program} {Q : VEx → Env → List Ob → Prop} {e : Env} {H : List Ob} : vwp P c_delta_Sizes_k3 Q e H = vwp P (.seq (.ops [⟨some 6, .p (.mov (.t 0)), none⟩,
    ⟨some 7, .p (.build [.val (.slice none 0 0), .val (.bool false)] [1, 1] [⟨0, .t 6⟩]), none⟩,
    ⟨some 8, .s (.box (.t 7)), none⟩,
    ⟨some 5, .p (.mov (.t 8)), none⟩] [5])
  c_delta_Sizes_k2) Q e H := by_refl rfl
theorem u_delta_Sizes_e {P : Program} {Q : VEx → Env → List Ob → Prop} {e : Env} {H : List Ob} : vwp P c_delta_Sizes Q e H = vwp P (.seq (.ops [⟨some 2, .p (.mov (.c (.int .i64 ((0 : Nat) : Int)))), none⟩,
    ⟨some 3, .p (.mov (.c (.int .i64 ((0 : Nat) : Int)))), none⟩,
    ⟨some 4, .p (.mov (.c .nilIface)), none⟩] [0])
  c_delta_Sizes_k3) Q e H := by_refl rfl
theorem u_delta_Sizes_r {K : TV → Prop} {e : Env} {H : List Ob} : res r_delta_Sizes e H K = res [.tmp 2, .tmp 3, .tmp 4] e H K := by_refl rfl
def u_delta_Sizes := (And.intro (And.intro (And.intro @u_delta_Sizes_k1_e @u_delta_Sizes_k2_e) (And.intro @u_delta_Sizes_k3_e @u_delta_Sizes_e)) @u_delta_Sizes_r)
theorem go_delta_Sizes {args : List TV} {H : List Ob} {R : TV → List Ob → Prop} (hn : args.length ≤ 20) (h : vwp Tryd.prog c_delta_Sizes (atEnd r_delta_Sizes R) (argsE 0 args) H) : VCalls Tryd.prog 19 args H R := vcalls_of Tryd.func19 t_delta_Sizes w_delta_Sizes hn h

/-! gitlike/gitlikeref4.part -/
def c_ref4_part_k1 : VCode := .seq (.ops [⟨some 28, .p (.mov (.t 11)), none⟩,
    ⟨some 29, .p (.mov (.t 0)), none⟩,
    ⟨some 30, .p (.idxA 1 (.t 29) (.c (.int .i64 ((0 : Nat) : Int)))), none⟩,
    ⟨some 31, .p (.load false 1 (.t 30)), none⟩,
    ⟨some 32, .p (.conv .i64 (.t 31)), none⟩,
    ⟨some 33, .p (.mov (.t 12)), none⟩,
    ⟨some 34, .p (.mov (.t 2)), none⟩,
    ⟨some 35, .p (.bin 3 .sub (.t 33) (.t 34)), none⟩,
    ⟨some 36, .p (.bin 3 .mul (.c (.int .i64 ((8 : Nat) : Int))) (.t 35)), none⟩,
    ⟨some 37, .p (.bin 3 .shl (.t 32) (.t 36)), none⟩,
    ⟨some 38, .p (.bin 3 .add (.t 28) (.t 37)), none⟩,
    ⟨some 11, .p (.mov (.t 38)), none⟩] [0, 1, 2, 3, 11, 12])
  (.ops [⟨some 39, .p (.mov (.t 0)), none⟩,
    ⟨some 40, .p (.slV 1 (.t 39) (some (.c (.int .i64 ((1 : Nat) : Int)))) none), none⟩,
    ⟨some 0, .p (.mov (.t 40)), none⟩] [0, 1, 2, 3, 11, 12])
def c_ref4_part_k2 : VCode := .seq (.seq (.ops [⟨some 24, .p (.mov (.t 0)), none⟩,
    ⟨some 25, .p (.lenV (.t 24)), none⟩,
    ⟨some 26, .p (.bin 3 .eql (.t 25) (.c (.int .i64 ((0 : Nat) : Int)))), none⟩] [0, 1, 2, 3, 11, 12, 26])
  (.cond (.t 26)
  (.seq (.ops [⟨some 27, .p (.mov (.t 0)), none⟩,
      ⟨some 8, .p (.mov (.c (.int .i64 ((0 : Nat) : Int)))), none⟩,
      ⟨some 9, .p (.mov (.t 27)), none⟩,
      ⟨some 10, .p (.mov (.c (.bool false))), none⟩] [8, 9, 10])
    (.ret))
  (.skip)))
  c_ref4_part_k1
def c_ref4_part_k3 : VCode := .seq (.block 1 (.seq (.seq (.ops [⟨some 19, .p (.mov (.t 1)), none⟩,
    ⟨some 20, .p (.mov (.t 12)), none⟩,
    ⟨some 21, .p (.bin 3 .shr (.t 19) (.t 20)), none⟩,
    ⟨some 22, .p (.bin 3 .rem (.t 21) (.c (.int .i64 ((2 : Nat) : Int)))), none⟩,
    ⟨some 23, .p (.bin 3 .eql (.t 22) (.c (.int .i64 ((0 : Nat) : Int)))), none⟩] [0, 1, 2, 3, 11, 12, 23])
  (.cond (.t 23)
  (.exit 1)
  (.skip)))
  c_ref4_part_k2))
  (.ops [⟨some 17, .p (.mov (.t 12)), none⟩,
    ⟨some 18, .p (.bin 3 .add (.t 17) (.c (.int .i64 ((1 : Nat) : Int)))), none⟩,
    ⟨some 12, .p (.mov (.t 18)), none⟩] [0, 1, 2, 3, 11, 12])
def c_ref4_part_L4 : VCode := .seq (.seq (.ops [⟨some 14, .p (.mov (.t 12)), none⟩,
    ⟨some 15, .p (.mov (.t 3)), none⟩,
    ⟨some 16, .p (.bin 3 .leq (.t 14) (.t 15)), none⟩] [0, 1, 2, 3, 11, 12, 16])
  (.cond (.t 16)
  (.skip)
  (.exit 0)))
  c_ref4_part_k3
def c_ref4_part_k5 : VCode := .block 0 (.loop [0, 1, 2, 3, 11, 12] c_ref4_part_L4)
def c_ref4_part_k6 : VCode := .seq (.ops [⟨some 41, .p (.mov (.t 11)), none⟩,
    ⟨some 42, .p (.mov (.t 0)), none⟩,
    ⟨some 8, .p (.mov (.t 41)), none⟩,
    ⟨some 9, .p (.mov (.t 42)), none⟩,
    ⟨some 10, .p (.mov (.c (.bool true))), none⟩] [8, 9, 10])
  (.ret)
def c_ref4_part_k7 : VCode := .seq (.seq (.ops [⟨some 13, .p (.mov (.t 2)), none⟩,
    ⟨some 12, .p (.mov (.t 13)), none⟩] [0, 1, 2, 3, 11, 12])
  c_ref4_part_k5)
  c_ref4_part_k6
def c_ref4_part_k8 : VCode := .seq (.ops [⟨some 11, .p (.mov (.c (.int .i64 ((0 : Nat) : Int)))), none⟩] [0, 1, 2, 3, 11])
  c_ref4_part_k7
def c_ref4_part : VCode := .seq (.ops [⟨some 8, .p (.mov (.c (.int .i64 ((0 : Nat) : Int)))), none⟩,
    ⟨some 9, .p (.mov (.c (.slice none 0 0))), none⟩,
    ⟨some 10, .p (.mov (.c (.bool false))), none⟩] [0, 1, 2, 3])
  c_ref4_part_k8
def r_ref4_part : List VR := [.tmp 8, .tmp 9, .tmp 10]
theorem t_ref4_part : Tryd.f40.body.bind (trC Tryd.prog Tryd.f40.ntmps) = some (er c_ref4_part) := by kernel_rfl
theorem w_ref4_part : trR Tryd.prog Tryd.f40.results.toList = some r_ref4_part := by kernel_rfl
theorem u_ref4_part_k1_e {P : Program} {Q : VEx → Env → List Ob → Prop} {e : Env} {H : List Ob} : vwp P c_ref4_part_k1 Q e H = vwp P (.seq (.ops [⟨some 28, .p (.mov (.t 11)), none⟩,
    ⟨some 29, .p (.mov (.t 0)), none⟩,
    ⟨some 30, .p (.idxA 1 (.t 29) (.c (.int .i64 ((0 : Nat) : Int)))), none⟩,
    ⟨some 31, .p (.load false 1 (.t 30)), none⟩,
    ⟨some 32, .p (.conv .i64 (.t 31)), none⟩,
    ⟨some 33, .p (.mov (.t 12)), none⟩,
    ⟨some 34, .p (.mov (.t 2)), none⟩,
    ⟨some 35, .p (.bin 3 .sub (.t 33) (.t 34)), none⟩,
    ⟨some 36, .p (.bin 3 .mul (.c (.int .i64 ((8 : Nat) : Int))) (.t 35)), none⟩,
    ⟨some 37, .p (.bin 3 .shl (.t 32) (.t 36)), none⟩,
    ⟨some 38, .p (.bin 3 .add (.t 28) (.t 37)), none⟩,
    ⟨some 11, .p (.mov (.t 38)), none⟩] [0, 1, 2, 3, 11, 12])
  (.ops [⟨some 39, .p (.mov (.t 0)), none⟩,
    ⟨some 40, .p (.slV 1 (.t 39) (some (.c (.int .i64 ((1 : Nat) : Int)))) none), none⟩,
    ⟨some 0, .p (.mov (.t 40)), none⟩] [0, 1, 2, 3, 11, 12])) Q e H := by_refl rfl
theorem u_ref4_part_k2_e {P : Program} {Q : VEx → Env → List Ob → Prop} {e : Env} {H : List Ob} : vwp P c_ref4_part_k2 Q e H = vwp P (.seq (.seq (.ops [⟨some 24, .p (.mov (.t 0)), none⟩,
    ⟨some 25, .p (.lenV (.t 24)), none⟩,
    ⟨some 26, .p (.bin 3 .eql (.t 25) (.c (.int .i64 ((0 : Nat) : Int)))), none⟩] [0, 1, 2, 3, 11, 12, 26])
  (.cond (.t 26)
  (.seq (.ops [⟨some 27, .p (.mov (.t 0)), none⟩,
      ⟨some 8, .p (.mov (.c (.int .i64 ((0 : Nat) : Int)))), none⟩,
      ⟨some 9, .p (.mov (.t 27)), none⟩,
      ⟨some 10, .p (.mov (.c (.bool false))), none⟩] [8, 9, 10])
    (.ret))
  (.skip)))
  c_ref4_part_k1) Q e H := by_refl rfl
theorem u_ref4_part_k3_e {P : Program} {Q : VEx → Env → List Ob → Prop} {e : Env} {H : List Ob} : vwp P c_ref4_part_k3 Q e H = vwp P (.seq (.block 1 (.seq (.seq (.ops [⟨some 19, .p (.mov (.t 1)), none⟩,
    ⟨some 20, .p (.mov (.t 12)), none⟩,
    ⟨some 21, .p (.bin 3 .shr (.t 19) (.t 20)), none⟩,
    ⟨some 22, .p (.bin 3 .rem (.t 21) (.c (.int .i64 ((2 : Nat) : Int)))), none⟩,
    ⟨some 23, .p (.bin 3 .eql (.t 22) (.c (.int .i64 ((0 : Nat) : Int)))), none⟩] [0, 1, 2, 3, 11, 12, 23])
  (.cond (.t 23)
  (.exit 1)
  (.skip)))
  c_ref4_part_k2))
  (.ops [⟨some 17, .p (.mov (.t 12)), none⟩,
    ⟨some 18, .p (.bin 3 .add (.t 17) (.c (.int .i64 ((1 : Nat) : Int)))), none⟩,
    ⟨some 12, .p (.mov (.t 18)), none⟩] [0, 1, 2, 3, 11, 12])) Q e H := by_refl rfl
theorem u_ref4_part_L4_e {P : Program} {Q : VEx → Env → List Ob → Prop} {e : Env} {H : List Ob} : vwp P c_ref4_part_L4 Q e H = vwp P (.seq (.seq (.ops [⟨some 14, .p (.mov (.t 12)), none⟩,
    ⟨some 15, .p (.mov (.t 3)), none⟩,
    ⟨some 16, .p (.bin 3 .leq (.t 14) (.t 15)), none⟩] [0, 1, 2, 3, 11, 12, 16])
  (.cond (.t 16)
  (.skip)
  (.exit 0)))
  c_ref4_part_k3) Q e H := by_refl rfl
theorem u_ref4_part_k5_e {P : Program} {Q : VEx → Env → List Ob → Prop} {e : Env} {H : List Ob} : vwp P c_ref4_part_k5 Q e H = vwp P (.block 0 (.loop [0, 1, 2, 3, 11, 12] c_ref4_part_L4)) Q e H := by_refl rfl
theorem u_ref4_part_k6_e {P : Program} {Q : VEx → Env → List Ob → Prop} {e : Env} {H : List Ob} : vwp P c_ref4_part_k6 Q e H = vwp P (.seq (.ops [⟨some 41, .p (.mov (.t 11)), none⟩,
    ⟨some 42, .p (.mov (.t 0)), none⟩,
    ⟨some 8, .p (.mov (.t 41)), none⟩,
    ⟨some 9, .p (.mov (.t 42)), none⟩,
    ⟨some 10, .p (.mov (.c (.bool true))), none⟩] [8, 9, 10])
  (.ret)) Q e H := by_refl rfl
theorem u_ref4_part_k7_e {P : Program} {Q : VEx → Env → List Ob → Prop} {e : Env} {H : List Ob} : vwp P c_ref4_part_k7 Q e H = vwp P (.seq (.seq (.ops [⟨some 13, .p (.mov (.t 2)), none⟩,
    ⟨some 12, .p (.mov (.t 13)), none⟩] [0, 1, 2, 3, 11, 12])
  c_ref4_part_k5)
  c_ref4_part_k6) Q e H := by_refl rfl
theorem u_ref4_part_k8_e {P : Program} {Q : VEx → Env → List Ob → Prop} {e : Env} {H : List Ob} : vwp P c_ref4_part_k8 Q e H = vwp P (.seq (.ops [⟨some 11, .p (.mov (.c (.int .i64 ((0 : Nat) : Int)))), none⟩] [0, 1, 2, 3, 11])
  c_ref4_part_k7) Q e H := by_refl rfl
theorem u_ref4_part_e {P : Program} {Q : VEx → Env → List Ob → Prop} {e : Env} {H : List Ob} : vwp P c_ref4_part Q e H = vwp P (.seq (.ops [⟨some 8, .p (.mov (.c (.int .i64 ((0 : Nat) : Int)))), none⟩,
    ⟨some 9, .p (.mov (.c (.slice none 0 0))), none⟩,
    ⟨some 10, .p (.mov (.c (.bool false))), none⟩] [0, 1, 2, 3])
  c_ref4_part_k8) Q e H := by_refl rfl
theorem u_ref4_part_r {K : TV → Prop} {e : Env} {H : List Ob} : res r_ref4_part e H K = res [.tmp 8, .tmp 9, .tmp 10] e H K := by_refl rfl
def u_ref4_part := (And.intro (And.intro (And.intro (And.intro @u_ref4_part_k1_e @u_ref4_part_k2_e) (And.intro @u_ref4_part_k3_e @u_ref4_part_L4_e)) (And.intro (And.intro @u_ref4_part_k5_e @u_ref4_part_k6_e) (And.intro @u_ref4_part_k7_e @u_ref4_part_k8_e))) (And.intro @u_ref4_part_e @u_ref4_part_r))
theorem go_ref4_part {args : List TV} {H : List Ob} {R : TV → List Ob → Prop} (hn : args.length ≤ 43) (h : vwp Tryd.prog c_ref4_part (atEnd r_ref4_part R) (argsE 0 args) H) : VCalls Tryd.prog 40 args H R := vcalls_of Tryd.func40 t_ref4_part w_ref4_part hn h

/-! gitlike/gitlikeref4.Apply -/
def c_ref4_Apply_k1 : VCode := .seq (.seq (.ops [⟨some 65, .p (.mov (.t 15)), none⟩,
    ⟨some 66, .p (.un .not (.t 65)), none⟩,
    ⟨some 67, .p (.mov (.t 66)), none⟩,
    ⟨some 68, .p (.mov (.t 16)), some ⟨67, false⟩⟩,
    ⟨some 69, .p (.un .not (.t 68)), some ⟨67, false⟩⟩,
    ⟨some 70, .p (.pick (.t 67) (.c (.bool true)) (.t 69)), none⟩] [0, 7, 8, 10, 11, 13, 14, 70])
  (.cond (.t 70)
  (.seq (.ops [⟨some 4, .p (.mov (.c (.slice none 0 0))), none⟩,
      ⟨some 5, .p (.mov (.c (.bool false))), none⟩] [4, 5])
    (.ret))
  (.skip)))
  (.seq (.seq (.ops [⟨some 71, .p (.mov (.t 14)), none⟩,
    ⟨some 72, .p (.bin 3 .eql (.t 71) (.c (.int .i64 ((0 : Nat) : Int)))), none⟩] [0, 7, 8, 10, 11, 13, 14, 72])
  (.cond (.t 72)
  (.ops [⟨some 14, .p (.mov (.c (.int .i64 ((65536 : Nat) : Int)))), none⟩] [0, 7, 8, 10, 11, 13, 14])
  (.skip)))
  (.ops [⟨some 73, .p (.mov (.t 0)), none⟩,
    ⟨some 12, .p (.mov (.t 73)), none⟩] [0, 7, 8, 10, 11, 12, 13, 14]))
def c_ref4_Apply_k2 : VCode := .seq (.ops [⟨some 59, .p (.mov (.t 8)), none⟩,
    ⟨some 60, .p (.mov (.t 11)), none⟩,
    ⟨some 61, .s (.call 40 [.t 59, .t 60, .c (.int .i64 ((4 : Nat) : Int)), .c (.int .i64 ((6 : Nat) : Int))]), none⟩,
    ⟨some 58, .p (.mov (.t 61)), none⟩,
    ⟨some 62, .p (.ext 0 (.t 58)), none⟩,
    ⟨some 63, .p (.ext 1 (.t 58)), none⟩,
    ⟨some 64, .p (.ext 2 (.t 58)), none⟩,
    ⟨some 14, .p (.mov (.t 62)), none⟩,
    ⟨some 8, .p (.mov (.t 63)), none⟩,
    ⟨some 16, .p (.mov (.t 64)), none⟩] [0, 7, 8, 10, 11, 13, 14, 15, 16])
  c_ref4_Apply_k1
def c_ref4_Apply_k3 : VCode := .seq (.ops [⟨some 52, .p (.mov (.t 8)), none⟩,
    ⟨some 53, .p (.mov (.t 11)), none⟩,
    ⟨some 54, .s (.call 40 [.t 52, .t 53, .c (.int .i64 ((0 : Nat) : Int)), .c (.int .i64 ((3 : Nat) : Int))]), none⟩,
    ⟨some 51, .p (.mov (.t 54)), none⟩,
    ⟨some 55, .p (.ext 0 (.t 51)), none⟩,
    ⟨some 56, .p (.ext 1 (.t 51)), none⟩,
    ⟨some 57, .p (.ext 2 (.t 51)), none⟩,
    ⟨some 13, .p (.mov (.t 55)), none⟩,
    ⟨some 8, .p (.mov (.t 56)), none⟩,
    ⟨some 15, .p (.mov (.t 57)), none⟩] [0, 7, 8, 10, 11, 13, 15])
  c_ref4_Apply_k2
def c_ref4_Apply_k4 : VCode := .seq (.ops [⟨some 16, .p (.mov (.c (.bool true))), none⟩] [0, 7, 8, 10, 11])
  c_ref4_Apply_k3
def c_ref4_Apply_b5 : VCode := .seq (.ops [⟨some 15, .p (.mov (.c (.bool true))), none⟩] [0, 7, 8, 10, 11])
  c_ref4_Apply_k4
def c_ref4_Apply_k6 : VCode := .cond (.t 50)
  c_ref4_Apply_b5
  (.skip)
def c_ref4_Apply_k7 : VCode := .seq (.ops [⟨some 88, .p (.mov (.t 10)), none⟩,
    ⟨some 89, .p (.mov (.t 12)), none⟩,
    ⟨some 90, .p (.mov (.t 13)), none⟩,
    ⟨some 91, .p (.mov (.t 13)), none⟩,
    ⟨some 92, .p (.mov (.t 14)), none⟩,
    ⟨some 93, .p (.bin 3 .add (.t 91) (.t 92)), none⟩,
    ⟨some 94, .p (.slV 1 (.t 89) (some (.t 90)) (some (.t 93))), none⟩,
    ⟨some 95, .s (.app 1 1 (.t 88) (.t 94)), none⟩,
    ⟨some 10, .p (.mov (.t 95)), none⟩] [0, 7, 8, 10, 11, 14])
  (.seq (.ops [⟨some 96, .p (.mov (.t 11)), none⟩,
    ⟨some 97, .p (.bin 3 .lss (.t 96) (.c (.int .i64 ((128 : Nat) : Int)))), none⟩] [0, 7, 8, 10, 14, 97])
  (.cond (.t 97)
  (.ops [⟨some 98, .p (.mov (.t 8)), none⟩,
      ⟨some 99, .p (.mov (.t 14)), none⟩,
      ⟨some 100, .p (.slV 1 (.t 98) (some (.t 99)) none), none⟩,
      ⟨some 8, .p (.mov (.t 100)), none⟩] [0, 7, 8, 10])
  (.skip)))
def c_ref4_Apply_k8 : VCode := .seq (.seq (.ops [⟨some 74, .p (.mov (.t 14)), none⟩,
    ⟨some 75, .p (.mov (.t 12)), none⟩,
    ⟨some 76, .p (.lenV (.t 75)), none⟩,
    ⟨some 77, .p (.mov (.t 13)), none⟩,
    ⟨some 78, .p (.bin 3 .sub (.t 76) (.t 77)), none⟩,
    ⟨some 79, .p (.bin 3 .gtr (.t 74) (.t 78)), none⟩,
    ⟨some 80, .p (.mov (.t 79)), none⟩,
    ⟨some 81, .p (.mov (.t 10)), some ⟨80, false⟩⟩,
    ⟨some 82, .p (.lenV (.t 81)), some ⟨80, false⟩⟩,
    ⟨some 83, .p (.mov (.t 14)), some ⟨80, false⟩⟩,
    ⟨some 84, .p (.bin 3 .add (.t 82) (.t 83)), some ⟨80, false⟩⟩,
    ⟨some 85, .p (.mov (.t 7)), some ⟨80, false⟩⟩,
    ⟨some 86, .p (.bin 3 .gtr (.t 84) (.t 85)), some ⟨80, false⟩⟩,
    ⟨some 87, .p (.pick (.t 80) (.c (.bool true)) (.t 86)), none⟩] [0, 7, 8, 10, 11, 12, 13, 14, 87])
  (.cond (.t 87)
  (.seq (.ops [⟨some 4, .p (.mov (.c (.slice none 0 0))), none⟩,
      ⟨some 5, .p (.mov (.c (.bool false))), none⟩] [4, 5])
    (.ret))
  (.skip)))
  c_ref4_Apply_k7
def c_ref4_Apply_k9 : VCode := .seq (.seq (.ops [⟨some 49, .p (.mov (.t 11)), none⟩,
    ⟨some 50, .p (.bin 3 .geq (.t 49) (.c (.int .i64 ((128 : Nat) : Int)))), none⟩] [0, 7, 8, 10, 11, 12, 13, 14, 50])
  c_ref4_Apply_k6)
  c_ref4_Apply_k8
def c_ref4_Apply_k10 : VCode := .seq (.ops [⟨some 48, .p (.mov (.t 11)), none⟩,
    ⟨some 14, .p (.mov (.t 48)), none⟩] [0, 7, 8, 10, 11, 12, 13, 14])
  c_ref4_Apply_k9
def c_ref4_Apply_k11 : VCode := .seq (.ops [⟨some 13, .p (.mov (.c (.int .i64 ((0 : Nat) : Int)))), none⟩] [0, 7, 8, 10, 11, 12, 13])
  c_ref4_Apply_k10
def c_ref4_Apply_k12 : VCode := .seq (.ops [⟨some 47, .p (.mov (.t 8)), none⟩,
    ⟨some 12, .p (.mov (.t 47)), none⟩] [0, 7, 8, 10, 11, 12])
  c_ref4_Apply_k11
def c_ref4_Apply_k13 : VCode := .seq (.seq (.ops [⟨some 45, .p (.mov (.t 11)), none⟩,
    ⟨some 46, .p (.bin 3 .eql (.t 45) (.c (.int .i64 ((0 : Nat) : Int)))), none⟩] [0, 7, 8, 10, 11, 46])
  (.cond (.t 46)
  (.seq (.ops [⟨some 4, .p (.mov (.c (.slice none 0 0))), none⟩,
      ⟨some 5, .p (.mov (.c (.bool false))), none⟩] [4, 5])
    (.ret))
  (.skip)))
  c_ref4_Apply_k12
def c_ref4_Apply_k14 : VCode := .seq (.ops [⟨some 43, .p (.mov (.t 8)), none⟩,
    ⟨some 44, .p (.slV 1 (.t 43) (some (.c (.int .i64 ((1 : Nat) : Int)))) none), none⟩,
    ⟨some 8, .p (.mov (.t 44)), none⟩] [0, 7, 8, 10, 11])
  c_ref4_Apply_k13
def c_ref4_Apply_k15 : VCode := .block 1 (.seq (.ops [⟨some 39, .p (.mov (.t 8)), none⟩,
    ⟨some 40, .p (.idxA 1 (.t 39) (.c (.int .i64 ((0 : Nat) : Int)))), none⟩,
    ⟨some 41, .p (.load false 1 (.t 40)), none⟩,
    ⟨some 42, .p (.conv .i64 (.t 41)), none⟩,
    ⟨some 11, .p (.mov (.t 42)), none⟩] [0, 7, 8, 10, 11])
  c_ref4_Apply_k14)
def c_ref4_Apply_L16 : VCode := .seq (.seq (.ops [⟨some 36, .p (.mov (.t 8)), none⟩,
    ⟨some 37, .p (.lenV (.t 36)), none⟩,
    ⟨some 38, .p (.bin 3 .gtr (.t 37) (.c (.int .i64 ((0 : Nat) : Int)))), none⟩] [0, 7, 8, 10, 38])
  (.cond (.t 38)
  (.skip)
  (.exit 0)))
  c_ref4_Apply_k15
def c_ref4_Apply_k17 : VCode := .seq (.ops [⟨some 101, .p (.mov (.t 10)), none⟩,
    ⟨some 102, .p (.mov (.t 10)), none⟩,
    ⟨some 103, .p (.lenV (.t 102)), none⟩,
    ⟨some 104, .p (.mov (.t 7)), none⟩,
    ⟨some 105, .p (.bin 3 .eql (.t 103) (.t 104)), none⟩,
    ⟨some 4, .p (.mov (.t 101)), none⟩,
    ⟨some 5, .p (.mov (.t 105)), none⟩] [4, 5])
  (.ret)
def c_ref4_Apply_k18 : VCode := .seq (.block 0 (.own 10 1 (.loop [0, 7, 8, 10] c_ref4_Apply_L16)))
  c_ref4_Apply_k17
def c_ref4_Apply_k19 : VCode := .seq (.ops [⟨some 10, .p (.mov (.c (.slice none 0 0))), none⟩] [0, 7, 8, 10])
  c_ref4_Apply_k18
def c_ref4_Apply_k20 : VCode := .seq (.seq (.ops [⟨some 24, .p (.mov (.t 9)), none⟩,
    ⟨some 25, .p (.un .not (.t 24)), none⟩,
    ⟨some 26, .p (.mov (.t 25)), none⟩,
    ⟨some 27, .p (.mov (.t 6)), some ⟨26, false⟩⟩,
    ⟨some 28, .p (.mov (.t 0)), some ⟨26, false⟩⟩,
    ⟨some 29, .p (.lenV (.t 28)), some ⟨26, false⟩⟩,
    ⟨some 30, .p (.bin 3 .neq (.t 27) (.t 29)), some ⟨26, false⟩⟩,
    ⟨some 31, .p (.pick (.t 26) (.c (.bool true)) (.t 30)), none⟩,
    ⟨some 32, .p (.mov (.t 31)), none⟩,
    ⟨some 33, .p (.mov (.t 7)), some ⟨32, false⟩⟩,
    ⟨some 34, .p (.bin 3 .gtr (.t 33) (.c (.int .i64 ((100000 : Nat) : Int)))), some ⟨32, false⟩⟩,
    ⟨some 35, .p (.pick (.t 32) (.c (.bool true)) (.t 34)), none⟩] [0, 7, 8, 35])
  (.cond (.t 35)
  (.seq (.ops [⟨some 4, .p (.mov (.c (.slice none 0 0))), none⟩,
      ⟨some 5, .p (.mov (.c (.bool false))), none⟩] [4, 5])
    (.ret))
  (.skip)))
  c_ref4_Apply_k19
def c_ref4_Apply_k21 : VCode := .seq (.ops [⟨some 18, .p (.mov (.t 1)), none⟩,
    ⟨some 19, .s (.call 22 [.t 18]), none⟩,
    ⟨some 17, .p (.mov (.t 19)), none⟩,
    ⟨some 20, .p (.ext 0 (.t 17)), none⟩,
    ⟨some 21, .p (.ext 1 (.t 17)), none⟩,
    ⟨some 22, .p (.ext 2 (.t 17)), none⟩,
    ⟨some 23, .p (.ext 3 (.t 17)), none⟩,
    ⟨some 6, .p (.mov (.t 20)), none⟩,
    ⟨some 7, .p (.mov (.t 21)), none⟩,
    ⟨some 8, .p (.mov (.t 22)), none⟩,
    ⟨some 9, .p (.mov (.t 23)), none⟩] [0, 6, 7, 8, 9])
  c_ref4_Apply_k20
def c_ref4_Apply : VCode := .seq (.ops [⟨some 4, .p (.mov (.c (.slice none 0 0))), none⟩,
    ⟨some 5, .p (.mov (.c (.bool false))), none⟩] [0, 1])
  c_ref4_Apply_k21
def r_ref4_Apply : List VR := [.tmp 4, .tmp 5]
theorem t_ref4_Apply : Tryd.f21.body.bind (trC Tryd.prog Tryd.f21.ntmps) = some (er c_ref4_Apply) := by kernel_rfl
theorem w_ref4_Apply : trR Tryd.prog Tryd.f21.results.toList = some r_ref4_Apply := by kernel_rfl
theorem u_ref4_Apply_k1_e {P : Program} {Q : VEx → Env → List Ob → Prop} {e : Env} {H : List Ob} : vwp P c_ref4_Apply_k1 Q e H = vwp P (.seq (.seq (.ops [⟨some 65, .p (.mov (.t 15)), none⟩,
    ⟨some 66, .p (.un .not (.t 65)), none⟩,
    ⟨some 67, .p (.mov (.t 66)), none⟩,
    ⟨some 68, .p (.mov (.t 16)), some ⟨67, false⟩⟩,
    ⟨some 69, .p (.un .not (.t 68)), some ⟨67, false⟩⟩,
    ⟨some 70, .p (.pick (.t 67) (.c (.bool true)) (.t 69)), none⟩] [0, 7, 8, 10, 11, 13, 14, 70])
  (.cond (.t 70)
  (.seq (.ops [⟨some 4, .p (.mov (.c (.slice none 0 0))), none⟩,
      ⟨some 5, .p (.mov (.c (.bool false))), none⟩] [4, 5])
    (.ret))
  (.skip)))
  (.seq (.seq (.ops [⟨some 71, .p (.mov (.t 14)), none⟩,
    ⟨some 72, .p (.bin 3 .eql (.t 71) (.c (.int .i64 ((0 : Nat) : Int)))), none⟩] [0, 7, 8, 10, 11, 13, 14, 72])
  (.cond (.t 72)
  (.ops [⟨some 14, .p (.mov (.c (.int .i64 ((65536 : Nat) : Int)))), none⟩] [0, 7, 8, 10, 11, 13, 14])
  (.skip)))
  (.ops [⟨some 73, .p (.mov (.t 0)), none⟩,
    ⟨some 12, .p (.mov (.t 73)), none⟩] [0, 7, 8, 10, 11, 12, 13, 14]))) Q e H := by_refl rfl
theorem u_ref4_Apply_k2_e {P : Program} {Q : VEx → Env → List Ob → Prop} {e : Env} {H : List Ob} : vwp P c_ref4_Apply_k2 Q e H = vwp P (.seq (.ops [⟨some 59, .p (.mov (.t 8)), none⟩,
    ⟨some 60, .p (.mov (.t 11)), none⟩,
    ⟨some 61, .s (.call 40 [.t 59, .t 60, .c (.int .i64 ((4 : Nat) : Int)), .c (.int .i64 ((6 : Nat) : Int))]), none⟩,
    ⟨some 58, .p (.mov (.t 61)), none⟩,
    ⟨some 62, .p (.ext 0 (.t 58)), none⟩,
    ⟨some 63, .p (.ext 1 (.t 58)), none⟩,
    ⟨some 64, .p (.ext 2 (.t 58)), none⟩,
    ⟨some 14, .p (.mov (.t 62)), none⟩,
    ⟨some 8, .p (.mov (.t 63)), none⟩,
    ⟨some 16, .p (.mov (.t 64)), none⟩] [0, 7, 8, 10, 11, 13, 14, 15, 16])
  c_ref4_Apply_k1) Q e H := by_refl rfl
theorem u_ref4_Apply_k3_e {P : Program} {Q : VEx → Env → List Ob → Prop} {e : Env} {H : List Ob} : vwp P c_ref4_Apply_k3 Q e H = vwp P (.seq (.ops [⟨some 52, .p (.mov (.t 8)), none⟩,
    ⟨some 53, .p (.mov (.t 11)), none⟩,
    ⟨some 54, .s (.call 40 [.t 52, .t 53, .c (.int .i64 ((0 : Nat) : Int)), .c (.int .i64 ((3 : Nat) : Int))]), none⟩,
    ⟨some 51, .p (.mov (.t 54)), none⟩,
    ⟨some 55, .p (.ext 0 (.t 51)), none⟩,
    ⟨some 56, .p (.ext 1 (.t 51)), none⟩,
    ⟨some 57, .p (.ext 2 (.t 51)), none⟩,
    ⟨some 13, .p (.mov (.t 55)), none⟩,
    ⟨some 8, .p (.mov (.t 56)), none⟩,
    ⟨some 15, .p (.mov (.t 57)), none⟩] [0, 7, 8, 10, 11, 13, 15])
  c_ref4_Apply_k2) Q e H := by_refl rfl
theorem u_ref4_Apply_k4_e {P : Program} {Q : VEx → Env → List Ob → Prop} {e : Env} {H : List Ob} : vwp P c_ref4_Apply_k4 Q e H = vwp P (.seq (.ops [⟨some 16, .p (.mov (.c (.bool true))), none⟩] [0, 7, 8, 10, 11])
  c_ref4_Apply_k3) Q e H := by_refl rfl
theorem u_ref4_Apply_b5_e {P : Program} {Q : VEx → Env → List Ob → Prop} {e : Env} {H : List Ob} : vwp P c_ref4_Apply_b5 Q e H = vwp P (.seq (.ops [⟨some 15, .p (.mov (.c (.bool true))), none⟩] [0, 7, 8, 10, 11])
  c_ref4_Apply_k4) Q e H := by_refl rfl
theorem u_ref4_Apply_k6_e {P : Program} {Q : VEx → Env → List Ob → Prop} {e : Env} {H : List Ob} : vwp P c_ref4_Apply_k6 Q e H = vwp P (.cond (.t 50)
  c_ref4_Apply_b5
  (.skip)) Q e H := by_refl rfl
theorem u_ref4_Apply_k7_e {P : Program} {Q : VEx → Env → List Ob → Prop} {e : Env} {H : List Ob} : vwp P c_ref4_Apply_k7 Q e H = vwp P (.seq (.ops [⟨some 88, .p (.mov (.t 10)), none⟩,
    ⟨some 89, .p (.mov (.t 12)), none⟩,
    ⟨some 90, .p (.mov (.t 13)), none⟩,
    ⟨some 91, .p (.mov (.t 13)), none⟩,
    ⟨some 92, .p (.mov (.t 14)), none⟩,
    ⟨some 93, .p (.bin 3 .add (.t 91) (.t 92)), none⟩,
    ⟨some 94, .p (.slV 1 (.t 89) (some (.t 90)) (some (.t 93))), none⟩,
    ⟨some 95, .s (.app 1 1 (.t 88) (.t 94)), none⟩,
    ⟨some 10, .p (.mov (.t 95)), none⟩] [0, 7, 8, 10, 11, 14])
  (.seq (.ops [⟨some 96, .p (.mov (.t 11)), none⟩,
    ⟨some 97, .p (.bin 3 .lss (.t 96) (.c (.int .i64 ((128 : Nat) : Int)))), none⟩] [0, 7, 8, 10, 14, 97])
  (.cond (.t 97)
  (.ops [⟨some 98, .p (.mov (.t 8)), none⟩,
      ⟨some 99, .p (.mov (.t 14)), none⟩,
      ⟨some 100, .p (.slV 1 (.t 98) (some (.t 99)) none), none⟩,
      ⟨some 8, .p (.mov (.t 100)), none⟩] [0, 7, 8, 10])
  (.skip)))) Q e H := by_refl rfl
theorem u_ref4_Apply_k8_e {P : Program} {Q : VEx → Env → List Ob → Prop} {e : Env} {H : List Ob} : vwp P c_ref4_Apply_k8 Q e H = vwp P (.seq (.seq (.ops [⟨some 74, .p (.mov (.t 14)), none⟩,
    ⟨some 75, .p (.mov (.t 12)), none⟩,
    ⟨some 76, .p (.lenV (.t 75)), none⟩,
    ⟨some 77, .p (.mov (.t 13)), none⟩,
    ⟨some 78, .p (.bin 3 .sub (.t 76) (.t 77)), none⟩,
    ⟨some 79, .p (.bin 3 .gtr (.t 74) (.t 78)), none⟩,
    ⟨some 80, .p (.mov (.t 79)), none⟩,
    ⟨some 81, .p (.mov (.t 10)), some ⟨80, false⟩⟩,
    ⟨some 82, .p (.lenV (.t 81)), some ⟨80, false⟩⟩,
    ⟨some 83, .p (.mov (.t 14)), some ⟨80, false⟩⟩,
    ⟨some 84, .p (.bin 3 .add (.t 82) (.t 83)), some ⟨80, false⟩⟩,
    ⟨some 85, .p (.mov (.t 7)), some ⟨80, false⟩⟩,
    ⟨some 86, .p (.bin 3 .gtr (.t 84) (.t 85)), some ⟨80, false⟩⟩,
    ⟨some 87, .p (.pick (.t 80) (.c (.bool true)) (.t 86)), none⟩] [0, 7, 8, 10, 11, 12, 13, 14, 87])
  (.cond (.t 87)
  (.seq (.ops [⟨some 4, .p (.mov (.c (.slice none 0 0))), none⟩,
      ⟨some 5, .p (.mov (.c (.bool false))), none⟩] [4, 5])
    (.ret))
  (.skip)))
  c_ref4_Apply_k7) Q e H := by_refl rfl
theorem u_ref4_Apply_k9_e {P : Program} {Q : VEx → Env → List Ob → Prop} {e : Env} {H : List Ob} : vwp P c_ref4_Apply_k9 Q e H = vwp P (.seq (.seq (.ops [⟨some 49, .p (.mov (.t 11)), none⟩,
    ⟨some 50, .p (.bin 3 .geq (.t 49) (.c (.int .i64 ((128 : Nat) : Int)))), none⟩] [0, 7, 8, 10, 11, 12, 13, 14, 50])
  c_ref4_Apply_k6)
  c_ref4_Apply_k8) Q e H := by_refl rfl
theorem u_ref4_Apply_k10_e {P : Program} {Q : VEx → Env → List Ob → Prop} {e : Env} {H : List Ob} : vwp P c_ref4_Apply_k10 Q e H = vwp P (.seq (.ops [⟨some 48, .p (.mov (.t 11)), none⟩,
    ⟨some 14, .p (.mov (.t 48)), none⟩] [0, 7, 8, 10, 11, 12, 13, 14])
  c_ref4_Apply_k9) Q e H := by_refl rfl
theorem u_ref4_Apply_k11_e {P : Program} {Q : VEx → Env → List Ob → Prop} {e : Env} {H : List Ob} : vwp P c_ref4_Apply_k11 Q e H = vwp P (.seq (.ops [⟨some 13, .p (.mov (.c (.int .i64 ((0 : Nat) : Int)))), none⟩] [0, 7, 8, 10, 11, 12, 13])
  c_ref4_Apply_k10) Q e H := by_refl rfl
theorem u_ref4_Apply_k12_e {P : Program} {Q : VEx → Env → List Ob → Prop} {e : Env} {H : List Ob} : vwp P c_ref4_Apply_k12 Q e H = vwp P (.seq (.ops [⟨some 47, .p (.mov (.t 8)), none⟩,
    ⟨some 12, .p (.mov (.t 47)), none⟩] [0, 7, 8, 10, 11, 12])
  c_ref4_Apply_k11) Q e H := by_refl rfl
theorem u_ref4_Apply_k13_e {P : Program} {Q : VEx → Env → List Ob → Prop} {e : Env} {H : List Ob} : vwp P c_ref4_Apply_k13 Q e H = vwp P (.seq (.seq (.ops [⟨some 45, .p (.mov (.t 11)), none⟩,
    ⟨some 46, .p (.bin 3 .eql (.t 45) (.c (.int .i64 ((0 : Nat) : Int)))), none⟩] [0, 7, 8, 10, 11, 46])
  (.cond (.t 46)
  (.seq (.ops [⟨some 4, .p (.mov (.c (.slice none 0 0))), none⟩,
      ⟨some 5, .p (.mov (.c (.bool false))), none⟩] [4, 5])
    (.ret))
  (.skip)))
  c_ref4_Apply_k12) Q e H := by_refl rfl
theorem u_ref4_Apply_k14_e {P : Program} {Q : VEx → Env → List Ob → Prop} {e : Env} {H : List Ob} : vwp P c_ref4_Apply_k14 Q e H = vwp P (.seq (.ops [⟨some 43, .p (.mov (.t 8)), none⟩,
    ⟨some 44, .p (.slV 1 (.t 43) (some (.c (.int .i64 ((1 : Nat) : Int)))) none), none⟩,
    ⟨some 8, .p (.mov (.t 44)), none⟩] [0, 7, 8, 10, 11])
  c_ref4_Apply_k13) Q e H := by_refl rfl
theorem u_ref4_Apply_k15_e {P : Program} {Q : VEx → Env → List Ob → Prop} {e : Env} {H : List Ob} : vwp P c_ref4_Apply_k15 Q e H = vwp P (.block 1 (.seq (.ops [⟨some 39, .p (.mov (.t 8)), none⟩,
    ⟨some 40, .p (.idxA 1 (.t 39) (.c (.int .i64 ((0 : Nat) : Int)))), none⟩,
    ⟨some 41, .p (.load false 1 (.t 40)), none⟩,
    ⟨some 42, .p (.conv .i64 (.t 41)), none⟩,
    ⟨some 11, .p (.mov (.t 42)), none⟩] [0, 7, 8, 10, 11])
  c_ref4_Apply_k14)) Q e H := by_refl rfl
theorem u_ref4_Apply_L16_e {P : Program} {Q : VEx → Env → List Ob → Prop} {e : Env} {H : List Ob} : vwp P c_ref4_Apply_L16 Q e H = vwp P (.seq (.seq (.ops [⟨some 36, .p (.mov (.t 8)), none⟩,
    ⟨some 37, .p (.lenV (.t 36)), none⟩,
    ⟨some 38, .p (.bin 3 .gtr (.t 37) (.c (.int .i64 ((0 : Nat) : Int)))), none⟩] [0, 7, 8, 10, 38])
  (.cond (.t 38)
  (.skip)
  (.exit 0)))
  c_ref4_Apply_k15) Q e H := by_refl rfl
theorem u_ref4_Apply_k17_e {P : Program} {Q : VEx → Env → List Ob → Prop} {e : Env} {H : List Ob} : vwp P c_ref4_Apply_k17 Q e H = vwp P (.seq (.ops [⟨some 101, .p (.mov (.t 10)), none⟩,
    ⟨some 102, .p (.mov (.t 10)), none⟩,
    ⟨some 103, .p (.lenV (.t 102)), none⟩,
    ⟨some 104, .p (.mov (.t 7)), none⟩,
    ⟨some 105, .p (.bin 3 .eql (.t 103) (.t 104)), none⟩,
    ⟨some 4, .p (.mov (.t 101)), none⟩,
    ⟨some 5, .p (.mov (.t 105)), none⟩] [4, 5])
  (.ret)) Q e H := by_refl rfl
theorem u_ref4_Apply_k18_e {P : Program} {Q : VEx → Env → List Ob → Prop} {e : Env} {H : List Ob} : vwp P c_ref4_Apply_k18 Q e H = vwp P (.seq (.block 0 (.own 10 1 (.loop [0, 7, 8, 10] c_ref4_Apply_L16)))
  c_ref4_Apply_k17) Q e H := by_refl rfl
theorem u_ref4_Apply_k19_e {P : Program} {Q : VEx → Env → List Ob → Prop} {e : Env} {H : List Ob} : vwp P c_ref4_Apply_k19 Q e H = vwp P (.seq (.ops [⟨some 10, .p (.mov (.c (.slice none 0 0))), none⟩] [0, 7, 8, 10])
  c_ref4_Apply_k18) Q e H := by_refl rfl
theorem u_ref4_Apply_k20_e {P : Program} {Q : VEx → Env → List Ob → Prop} {e : Env} {H : List Ob} : vwp P c_ref4_Apply_k20 Q e H = vwp P (.seq (.seq (.ops [⟨some 24, .p (.mov (.t 9)), none⟩,
    ⟨some 25, .p (.un .not (.t 24)), none⟩,
    ⟨some 26, .p (.mov (.t 25)), none⟩,
    ⟨some 27, .p (.mov (.t 6)), some ⟨26, false⟩⟩,
    ⟨some 28, .p (.mov (.t 0)), some ⟨26, false⟩⟩,
    ⟨some 29, .p (.lenV (.t 28)), some ⟨26, false⟩⟩,
    ⟨some 30, .p (.bin 3 .neq (.t 27) (.t 29)), some ⟨26, false⟩⟩,
    ⟨some 31, .p (.pick (.t 26) (.c (.bool true)) (.t 30)), none⟩,
    ⟨some 32, .p (.mov (.t 31)), none⟩,
    ⟨some 33, .p (.mov (.t 7)), some ⟨32, false⟩⟩,
    ⟨some 34, .p (.bin 3 .gtr (.t 33) (.c (.int .i64 ((100000 : Nat) : Int)))), some ⟨32, false⟩⟩,
    ⟨some 35, .p (.pick (.t 32) (.c (.bool true)) (.t 34)), none⟩] [0, 7, 8, 35])
  (.cond (.t 35)
  (.seq (.ops [⟨some 4, .p (.mov (.c (.slice none 0 0))), none⟩,
      ⟨some 5, .p (.mov (.c (.bool false))), none⟩] [4, 5])
    (.ret))
  (.skip)))
  c_ref4_Apply_k19) Q e H := by_refl rfl
theorem u_ref4_Apply_k21_e {P : Program} {Q : VEx → Env → List Ob → Prop} {e : Env} {H : List Ob} : vwp P c_ref4_Apply_k21 Q e H = vwp P (.seq (.ops [⟨some 18, .p (.mov (.t 1)), none⟩,
    ⟨some 19, .s (.call 22 [.t 18]), none⟩,
    ⟨some 17, .p (.mov (.t 19)), none⟩,
    ⟨some 20, .p (.ext 0 (.t 17)), none⟩,
    ⟨some 21, .p (.ext 1 (.t 17)), none⟩,
    ⟨some 22, .p (.ext 2 (.t 17)), none⟩,
    ⟨some 23, .p (.ext 3 (.t 17)), none⟩,
    ⟨some 6, .p (.mov (.t 20)), none⟩,
    ⟨some 7, .p (.mov (.t 21)), none⟩,
    ⟨some 8, .p (.mov (.t 22)), none⟩,
    ⟨some 9, .p (.mov (.t 23)), none⟩] [0, 6, 7, 8, 9])
  c_ref4_Apply_k20) Q e H := by_refl rfl
theorem u_ref4_Apply_e {P : Program} {Q : VEx → Env → List Ob → Prop} {e : Env} {H : List Ob} : vwp P c_ref4_Apply Q e H = vwp P (.seq (.ops [⟨some 4, .p (.mov (.c (.slice none 0 0))), none⟩,
    ⟨some 5, .p (.mov (.c (.bool false))), none⟩] [0, 1])
  c_ref4_Apply_k21) Q e H := by_refl rfl
theorem u_ref4_Apply_r {K : TV → Prop} {e : Env} {H : List Ob} : res r_ref4_Apply e H K = res [.tmp 4, .tmp 5] e H K := by_refl rfl
def u_ref4_Apply := (And.intro (And.intro (And.intro (And.intro (And.intro @u_ref4_Apply_k1_e @u_ref4_Apply_k2_e) (And.intro @u_ref4_Apply_k3_e @u_ref4_Apply_k4_e)) (And.intro (And.intro @u_ref4_Apply_b5_e @u_ref4_Apply_k6_e) (And.intro @u_ref4_Apply_k7_e @u_ref4_Apply_k8_e))) (And.intro (And.intro (And.intro @u_ref4_Apply_k9_e @u_ref4_Apply_k10_e) (And.intro @u_ref4_Apply_k11_e @u_ref4_Apply_k12_e)) (And.intro (And.intro @u_ref4_Apply_k13_e @u_ref4_Apply_k14_e) (And.intro @u_ref4_Apply_k15_e @u_ref4_Apply_L16_e)))) (And.intro (And.intro (And.intro @u_ref4_Apply_k17_e @u_ref4_Apply_k18_e) (And.intro @u_ref4_Apply_k19_e @u_ref4_Apply_k20_e)) (And.intro (And.intro @u_ref4_Apply_k21_e @u_ref4_Apply_e) @u_ref4_Apply_r)))
theorem go_ref4_Apply {args : List TV} {H : List Ob} {R : TV → List Ob → Prop} (hn : args.length ≤ 106) (h : vwp Tryd.prog c_ref4_Apply (atEnd r_ref4_Apply R) (argsE 0 args) H) : VCalls Tryd.prog 21 args H R := vcalls_of Tryd.func21 t_ref4_Apply w_ref4_Apply hn h

/-! gitlike/gitlikelaw4.DeltaApplies -/
def c_law4_DeltaApplies_b1 : VCode := .seq (.ops [⟨some 95, .p (.mov (.t 8)), none⟩,
    ⟨some 96, .s (.call 12 [.t 95]), none⟩,
    ⟨some 97, .p (.bin 30 .eql (.t 96) (.c (.int .i64 ((30 : Nat) : Int)))), none⟩,
    ⟨some 98, .p (.mov (.t 97)), none⟩,
    ⟨some 99, .p (.mov (.t 7)), some ⟨98, true⟩⟩,
    ⟨some 100, .p (.lenV (.t 99)), some ⟨98, true⟩⟩,
    ⟨some 101, .p (.bin 3 .eql (.t 100) (.c (.int .i64 ((0 : Nat) : Int)))), some ⟨98, true⟩⟩,
    ⟨some 102, .p (.pick (.t 98) (.t 101) (.c (.bool false))), none⟩,
    ⟨some 4, .p (.mov (.t 102)), none⟩] [4])
  (.ret)
def c_law4_DeltaApplies_k2 : VCode := .seq (.seq (.ops [⟨some 93, .p (.mov (.t 15)), none⟩,
    ⟨some 94, .p (.un .not (.t 93)), none⟩] [7, 8, 14, 94])
  (.cond (.t 94)
  c_law4_DeltaApplies_b1
  (.skip)))
  (.seq (.ops [⟨some 103, .p (.mov (.t 7)), none⟩,
    ⟨some 104, .p (.mov (.t 14)), none⟩,
    ⟨some 105, .s (.call 23 [.t 103, .t 104]), none⟩,
    ⟨some 20, .p (.mov (.t 105)), none⟩] [8, 20])
  (.seq (.ops [⟨some 106, .p (.mov (.t 8)), none⟩,
    ⟨some 107, .s (.call 12 [.t 106]), none⟩,
    ⟨some 108, .p (.bin 30 .eql (.t 107) (.c (.int .i64 ((0 : Nat) : Int)))), none⟩,
    ⟨some 109, .p (.mov (.t 108)), none⟩,
    ⟨some 110, .p (.mov (.t 20)), some ⟨109, true⟩⟩,
    ⟨some 111, .p (.pick (.t 109) (.t 110) (.c (.bool false))), none⟩,
    ⟨some 4, .p (.mov (.t 111)), none⟩] [4])
  (.ret)))
def c_law4_DeltaApplies_k3 : VCode := .seq (.seq (.ops [⟨some 78, .p (.mov (.t 11)), none⟩,
    ⟨some 79, .s (.call 12 [.t 78]), none⟩,
    ⟨some 80, .p (.bin 30 .neq (.t 79) (.c (.int .i64 ((0 : Nat) : Int)))), none⟩,
    ⟨some 81, .p (.mov (.t 80)), none⟩,
    ⟨some 82, .p (.mov (.t 19)), some ⟨81, true⟩⟩,
    ⟨some 83, .p (.pick (.t 81) (.t 82) (.c (.bool false))), none⟩,
    ⟨some 84, .p (.mov (.t 83)), none⟩,
    ⟨some 85, .p (.mov (.t 11)), some ⟨84, false⟩⟩,
    ⟨some 86, .s (.call 12 [.t 85]), some ⟨84, false⟩⟩,
    ⟨some 87, .p (.bin 30 .neq (.t 86) (.c (.int .i64 ((30 : Nat) : Int)))), some ⟨84, false⟩⟩,
    ⟨some 88, .p (.mov (.t 87)), some ⟨84, false⟩⟩,
    ⟨some 89, .p (.mov (.t 19)), some ⟨88, true⟩⟩,
    ⟨some 90, .p (.un .not (.t 89)), some ⟨88, true⟩⟩,
    ⟨some 91, .p (.pick (.t 88) (.t 90) (.c (.bool false))), some ⟨84, false⟩⟩,
    ⟨some 92, .p (.pick (.t 84) (.c (.bool true)) (.t 91)), none⟩] [7, 8, 14, 15, 92])
  (.cond (.t 92)
  (.seq (.ops [⟨some 4, .p (.mov (.c (.bool false))), none⟩] [4])
    (.ret))
  (.skip)))
  c_law4_DeltaApplies_k2
def c_law4_DeltaApplies_k4 : VCode := .seq (.seq (.ops [⟨some 62, .p (.mov (.t 12)), none⟩,
    ⟨some 63, .p (.un .not (.t 62)), none⟩,
    ⟨some 64, .p (.mov (.t 63)), none⟩,
    ⟨some 65, .p (.mov (.t 13)), some ⟨64, false⟩⟩,
    ⟨some 66, .p (.un .not (.t 65)), some ⟨64, false⟩⟩,
    ⟨some 67, .p (.pick (.t 64) (.c (.bool true)) (.t 66)), none⟩,
    ⟨some 68, .p (.mov (.t 67)), none⟩,
    ⟨some 69, .p (.mov (.t 9)), some ⟨68, false⟩⟩,
    ⟨some 70, .p (.mov (.t 16)), some ⟨68, false⟩⟩,
    ⟨some 71, .p (.bin 3 .neq (.t 69) (.t 70)), some ⟨68, false⟩⟩,
    ⟨some 72, .p (.pick (.t 68) (.c (.bool true)) (.t 71)), none⟩,
    ⟨some 73, .p (.mov (.t 72)), none⟩,
    ⟨some 74, .p (.mov (.t 10)), some ⟨73, false⟩⟩,
    ⟨some 75, .p (.mov (.t 17)), some ⟨73, false⟩⟩,
    ⟨some 76, .p (.bin 3 .neq (.t 74) (.t 75)), some ⟨73, false⟩⟩,
    ⟨some 77, .p (.pick (.t 73) (.c (.bool true)) (.t 76)), none⟩] [7, 8, 11, 14, 15, 19, 77])
  (.cond (.t 77)
  (.seq (.ops [⟨some 4, .p (.mov (.c (.bool false))), none⟩] [4])
    (.ret))
  (.skip)))
  c_law4_DeltaApplies_k3
def c_law4_DeltaApplies_k5 : VCode := .seq (.ops [⟨some 56, .p (.mov (.t 1)), none⟩,
    ⟨some 57, .s (.call 22 [.t 56]), none⟩,
    ⟨some 55, .p (.mov (.t 57)), none⟩,
    ⟨some 58, .p (.ext 0 (.t 55)), none⟩,
    ⟨some 59, .p (.ext 1 (.t 55)), none⟩,
    ⟨some 60, .p (.ext 2 (.t 55)), none⟩,
    ⟨some 61, .p (.ext 3 (.t 55)), none⟩,
    ⟨some 16, .p (.mov (.t 58)), none⟩,
    ⟨some 17, .p (.mov (.t 59)), none⟩,
    ⟨some 18, .p (.mov (.t 60)), none⟩,
    ⟨some 19, .p (.mov (.t 61)), none⟩] [7, 8, 9, 10, 11, 12, 13, 14, 15, 16, 17, 19])
  c_law4_DeltaApplies_k4
def c_law4_DeltaApplies_k6 : VCode := .seq (.ops [⟨some 50, .p (.mov (.t 0)), none⟩,
    ⟨some 51, .p (.mov (.t 1)), none⟩,
    ⟨some 52, .s (.call 21 [.t 50, .t 51]), none⟩,
    ⟨some 49, .p (.mov (.t 52)), none⟩,
    ⟨some 53, .p (.ext 0 (.t 49)), none⟩,
    ⟨some 54, .p (.ext 1 (.t 49)), none⟩,
    ⟨some 14, .p (.mov (.t 53)), none⟩,
    ⟨some 15, .p (.mov (.t 54)), none⟩] [1, 7, 8, 9, 10, 11, 12, 13, 14, 15])
  c_law4_DeltaApplies_k5
def c_law4_DeltaApplies_k7 : VCode := .seq (.ops [⟨some 46, .p (.mov (.t 6)), none⟩,
    ⟨some 47, .p (.mov (.t 1)), none⟩,
    ⟨some 48, .s (.call 20 [.t 46, .t 47]), none⟩,
    ⟨some 13, .p (.mov (.t 48)), none⟩] [0, 1, 7, 8, 9, 10, 11, 12, 13])
  c_law4_DeltaApplies_k6
def c_law4_DeltaApplies_k8 : VCode := .seq (.ops [⟨some 43, .p (.mov (.t 5)), none⟩,
    ⟨some 44, .p (.mov (.t 0)), none⟩,
    ⟨some 45, .s (.call 20 [.t 43, .t 44]), none⟩,
    ⟨some 12, .p (.mov (.t 45)), none⟩] [0, 1, 6, 7, 8, 9, 10, 11, 12])
  c_law4_DeltaApplies_k7
def c_law4_DeltaApplies_k9 : VCode := .seq (.ops [⟨some 38, .p (.mov (.t 6)), none⟩,
    ⟨some 39, .s (.call 19 [.t 38]), none⟩,
    ⟨some 37, .p (.mov (.t 39)), none⟩,
    ⟨some 40, .p (.ext 0 (.t 37)), none⟩,
    ⟨some 41, .p (.ext 1 (.t 37)), none⟩,
    ⟨some 42, .p (.ext 2 (.t 37)), none⟩,
    ⟨some 9, .p (.mov (.t 40)), none⟩,
    ⟨some 10, .p (.mov (.t 41)), none⟩,
    ⟨some 11, .p (.mov (.t 42)), none⟩] [0, 1, 5, 6, 7, 8, 9, 10, 11])
  c_law4_DeltaApplies_k8
def c_law4_DeltaApplies_k10 : VCode := .seq (.ops [⟨some 32, .p (.mov (.t 5)), none⟩,
    ⟨some 33, .p (.mov (.t 6)), none⟩,
    ⟨some 34, .s (.call 18 [.t 32, .t 33]), none⟩,
    ⟨some 31, .p (.mov (.t 34)), none⟩,
    ⟨some 35, .p (.ext 0 (.t 31)), none⟩,
    ⟨some 36, .p (.ext 1 (.t 31)), none⟩,
    ⟨some 7, .p (.mov (.t 35)), none⟩,
    ⟨some 8, .p (.mov (.t 36)), none⟩] [0, 1, 5, 6, 7, 8])
  c_law4_DeltaApplies_k9
def c_law4_DeltaApplies_k11 : VCode := .seq (.ops [⟨some 29, .p (.mov (.t 1)), none⟩,
    ⟨some 30, .s (.call 17 [.t 29]), none⟩,
    ⟨some 6, .p (.mov (.t 30)), none⟩] [0, 1, 5, 6])
  c_law4_DeltaApplies_k10
def c_law4_DeltaApplies_k12 : VCode := .seq (.ops [⟨some 27, .p (.mov (.t 0)), none⟩,
    ⟨some 28, .s (.call 17 [.t 27]), none⟩,
    ⟨some 5, .p (.mov (.t 28)), none⟩] [0, 1, 5])
  c_law4_DeltaApplies_k11
def c_law4_DeltaApplies_k13 : VCode := .seq (.seq (.ops [⟨some 21, .p (.mov (.t 0)), none⟩,
    ⟨some 22, .p (.lenV (.t 21)), none⟩,
    ⟨some 23, .p (.mov (.t 1)), none⟩,
    ⟨some 24, .p (.lenV (.t 23)), none⟩,
    ⟨some 25, .p (.bin 3 .add (.t 22) (.t 24)), none⟩,
    ⟨some 26, .p (.bin 3 .gtr (.t 25) (.c (.int .i64 ((300000 : Nat) : Int)))), none⟩] [0, 1, 26])
  (.cond (.t 26)
  (.seq (.ops [⟨some 4, .p (.mov (.c (.bool true))), none⟩] [4])
    (.ret))
  (.skip)))
  c_law4_DeltaApplies_k12
def c_law4_DeltaApplies : VCode := .seq (.ops [⟨some 4, .p (.mov (.c (.bool false))), none⟩] [0, 1])
  c_law4_DeltaApplies_k13
def r_law4_DeltaApplies : List VR := [.tmp 4]
theorem t_law4_DeltaApplies : Tryd.f5.body.bind (trC Tryd.prog Tryd.f5.ntmps) = some (er c_law4_DeltaApplies) := by kernel_rfl
theorem w_law4_DeltaApplies : trR Tryd.prog Tryd.f5.results.toList = some r_law4_DeltaApplies := by kernel_rfl
theorem u_law4_DeltaApplies_b1_e {P : Program} {Q : VEx → Env → List Ob → Prop} {e : Env} {H : List Ob} : vwp P c_law4_DeltaApplies_b1 Q e H = vwp P (.seq (.ops [⟨some 95, .p (.mov (.t 8)), none⟩,
    ⟨some 96, .s (.call 12 [.t 95]), none⟩,
    ⟨some 97, .p (.bin 30 .eql (.t 96) (.c (.int .i64 ((30 : Nat) : Int)))), none⟩,
    ⟨some 98, .p (.mov (.t 97)), none⟩,
    ⟨some 99, .p (.mov (.t 7)), some ⟨98, true⟩⟩,
    ⟨some 100, .p (.lenV (.t 99)), some ⟨98, true⟩⟩,
    ⟨some 101, .p (.bin 3 .eql (.t 100) (.c (.int .i64 ((0 : Nat) : Int)))), some ⟨98, true⟩⟩,
    ⟨some 102, .p (.pick (.t 98) (.t 101) (.c (.bool false))), none⟩,
    ⟨some 4, .p (.mov (.t 102)), none⟩] [4])
  (.ret)) Q e H := by_refl rfl
theorem u_law4_DeltaApplies_k2_e {P : Program} {Q : VEx → Env → List Ob → Prop} {e : Env} {H : List Ob} : vwp P c_law4_DeltaApplies_k2 Q e H = vwp P (.seq (.seq (.ops [⟨some 93, .p (.mov (.t 15)), none⟩,
    ⟨some 94, .p (.un .not (.t 93)), none⟩] [7, 8, 14, 94])
  (.cond (.t 94)
  c_law4_DeltaApplies_b1
  (.skip)))
  (.seq (.ops [⟨some 103, .p (.mov (.t 7)), none⟩,
    ⟨some 104, .p (.mov (.t 14)), none⟩,
    ⟨some 105, .s (.call 23 [.t 103, .t 104]), none⟩,
    ⟨some 20, .p (.mov (.t 105)), none⟩] [8, 20])
  (.seq (.ops [⟨some 106, .p (.mov (.t 8)), none⟩,
    ⟨some 107, .s (.call 12 [.t 106]), none⟩,
    ⟨some 108, .p (.bin 30 .eql (.t 107) (.c (.int .i64 ((0 : Nat) : Int)))), none⟩,
    ⟨some 109, .p (.mov (.t 108)), none⟩,
    ⟨some 110, .p (.mov (.t 20)), some ⟨109, true⟩⟩,
    ⟨some 111, .p (.pick (.t 109) (.t 110) (.c (.bool false))), none⟩,
    ⟨some 4, .p (.mov (.t 111)), none⟩] [4])
  (.ret)))) Q e H := by_refl rfl
theorem u_law4_DeltaApplies_k3_e {P : Program} {Q : VEx → Env → List Ob → Prop} {e : Env} {H : List Ob} : vwp P c_law4_DeltaApplies_k3 Q e H = vwp P (.seq (.seq (.ops [⟨some 78, .p (.mov (.t 11)), none⟩,
    ⟨some 79, .s (.call 12 [.t 78]), none⟩,
    ⟨some 80, .p (.bin 30 .neq (.t 79) (.c (.int .i64 ((0 : Nat) : Int)))), none⟩,
    ⟨some 81, .p (.mov (.t 80)), none⟩,
    ⟨some 82, .p (.mov (.t 19)), some ⟨81, true⟩⟩,
    ⟨some 83, .p (.pick (.t 81) (.t 82) (.c (.bool false))), none⟩,
    ⟨some 84, .p (.mov (.t 83)), none⟩,
    ⟨some 85, .p (.mov (.t 11)), some ⟨84, false⟩⟩,
    ⟨some 86, .s (.call 12 [.t 85]), some ⟨84, false⟩⟩,
    ⟨some 87, .p (.bin 30 .neq (.t 86) (.c (.int .i64 ((30 : Nat) : Int)))), some ⟨84, false⟩⟩,
    ⟨some 88, .p (.mov (.t 87)), some ⟨84, false⟩⟩,
    ⟨some 89, .p (.mov (.t 19)), some ⟨88, true⟩⟩,
    ⟨some 90, .p (.un .not (.t 89)), some ⟨88, true⟩⟩,
    ⟨some 91, .p (.pick (.t 88) (.t 90) (.c (.bool false))), some ⟨84, false⟩⟩,
    ⟨some 92, .p (.pick (.t 84) (.c (.bool true)) (.t 91)), none⟩] [7, 8, 14, 15, 92])
  (.cond (.t 92)
  (.seq (.ops [⟨some 4, .p (.mov (.c (.bool false))), none⟩] [4])
    (.ret))
  (.skip)))
  c_law4_DeltaApplies_k2) Q e H := by_refl rfl
theorem u_law4_DeltaApplies_k4_e {P : Program} {Q : VEx → Env → List Ob → Prop} {e : Env} {H : List Ob} : vwp P c_law4_DeltaApplies_k4 Q e H = vwp P (.seq (.seq (.ops [⟨some 62, .p (.mov (.t 12)), none⟩,
    ⟨some 63, .p (.un .not (.t 62)), none⟩,
    ⟨some 64, .p (.mov (.t 63)), none⟩,
    ⟨some 65, .p (.mov (.t 13)), some ⟨64, false⟩⟩,
    ⟨some 66, .p (.un .not (.t 65)), some ⟨64, false⟩⟩,
    ⟨some 67, .p (.pick (.t 64) (.c (.bool true)) (.t 66)), none⟩,
    ⟨some 68, .p (.mov (.t 67)), none⟩,
    ⟨some 69, .p (.mov (.t 9)), some ⟨68, false⟩⟩,
    ⟨some 70, .p (.mov (.t 16)), some ⟨68, false⟩⟩,
    ⟨some 71, .p (.bin 3 .neq (.t 69) (.t 70)), some ⟨68, false⟩⟩,
    ⟨some 72, .p (.pick (.t 68) (.c (.bool true)) (.t 71)), none⟩,
    ⟨some 73, .p (.mov (.t 72)), none⟩,
    ⟨some 74, .p (.mov (.t 10)), some ⟨73, false⟩⟩,
    ⟨some 75, .p (.mov (.t 17)), some ⟨73, false⟩⟩,
    ⟨some 76, .p (.bin 3 .neq (.t 74) (.t 75)), some ⟨73, false⟩⟩,
    ⟨some 77, .p (.pick (.t 73) (.c (.bool true)) (.t 76)), none⟩] [7, 8, 11, 14, 15, 19, 77])
  (.cond (.t 77)
  (.seq (.ops [⟨some 4, .p (.mov (.c (.bool false))), none⟩] [4])
    (.ret))
  (.skip)))
  c_law4_DeltaApplies_k3) Q e H := by_refl rfl
theorem u_law4_DeltaApplies_k5_e {P : Program} {Q : VEx → Env → List Ob → Prop} {e : Env} {H : List Ob} : vwp P c_law4_DeltaApplies_k5 Q e H = vwp P (.seq (.ops [⟨some 56, .p (.mov (.t 1)), none⟩,
    ⟨some 57, .s (.call 22 [.t 56]), none⟩,
    ⟨some 55, .p (.mov (.t 57)), none⟩,
    ⟨some 58, .p (.ext 0 (.t 55)), none⟩,
    ⟨some 59, .p (.ext 1 (.t 55)), none⟩,
    ⟨some 60, .p (.ext 2 (.t 55)), none⟩,
    ⟨some 61, .p (.ext 3 (.t 55)), none⟩,
    ⟨some 16, .p (.mov (.t 58)), none⟩,
    ⟨some 17, .p (.mov (.t 59)), none⟩,
    ⟨some 18, .p (.mov (.t 60)), none⟩,
    ⟨some 19, .p (.mov (.t 61)), none⟩] [7, 8, 9, 10, 11, 12, 13, 14, 15, 16, 17, 19])
  c_law4_DeltaApplies_k4) Q e H := by_refl rfl
theorem u_law4_DeltaApplies_k6_e {P : Program} {Q : VEx → Env → List Ob → Prop} {e : Env} {H : List Ob} : vwp P c_law4_DeltaApplies_k6 Q e H = vwp P (.seq (.ops [⟨some 50, .p (.mov (.t 0)), none⟩,
    ⟨some 51, .p (.mov (.t 1)), none⟩,
    ⟨some 52, .s (.call 21 [.t 50, .t 51]), none⟩,
    ⟨some 49, .p (.mov (.t 52)), none⟩,
    ⟨some 53, .p (.ext 0 (.t 49)), none⟩,
    ⟨some 54, .p (.ext 1 (.t 49)), none⟩,
    ⟨some 14, .p (.mov (.t 53)), none⟩,
    ⟨some 15, .p (.mov (.t 54)), none⟩] [1, 7, 8, 9, 10, 11, 12, 13, 14, 15])
  c_law4_DeltaApplies_k5) Q e H := by_refl rfl
theorem u_law4_DeltaApplies_k7_e {P : Program} {Q : VEx → Env → List Ob → Prop} {e : Env} {H : List Ob} : vwp P c_law4_DeltaApplies_k7 Q e H = vwp P (.seq (.ops [⟨some 46, .p (.mov (.t 6)), none⟩,
    ⟨some 47, .p (.mov (.t 1)), none⟩,
    ⟨some 48, .s (.call 20 [.t 46, .t 47]), none⟩,
    ⟨some 13, .p (.mov (.t 48)), none⟩] [0, 1, 7, 8, 9, 10, 11, 12, 13])
  c_law4_DeltaApplies_k6) Q e H := by_refl rfl
theorem u_law4_DeltaApplies_k8_e {P : Program} {Q : VEx → Env → List Ob → Prop} {e : Env} {H : List Ob} : vwp P c_law4_DeltaApplies_k8 Q e H = vwp P (.seq (.ops [⟨some 43, .p (.mov (.t 5)), none⟩,
    ⟨some 44, .p (.mov (.t 0)), none⟩,
    ⟨some 45, .s (.call 20 [.t 43, .t 44]), none⟩,
    ⟨some 12, .p (.mov (.t 45)), none⟩] [0, 1, 6, 7, 8, 9, 10, 11, 12])
  c_law4_DeltaApplies_k7) Q e H := by_refl rfl
theorem u_law4_DeltaApplies_k9_e {P : Program} {Q : VEx → Env → List Ob → Prop} {e : Env} {H : List Ob} : vwp P c_law4_DeltaApplies_k9 Q e H = vwp P (.seq (.ops [⟨some 38, .p (.mov (.t 6)), none⟩,
    ⟨some 39, .s (.call 19 [.t 38]), none⟩,
    ⟨some 37, .p (.mov (.t 39)), none⟩,
    ⟨some 40, .p (.ext 0 (.t 37)), none⟩,
    ⟨some 41, .p (.ext 1 (.t 37)), none⟩,
    ⟨some 42, .p (.ext 2 (.t 37)), none⟩,
    ⟨some 9, .p (.mov (.t 40)), none⟩,
    ⟨some 10, .p (.mov (.t 41)), none⟩,
    ⟨some 11, .p (.mov (.t 42)), none⟩] [0, 1, 5, 6, 7, 8, 9, 10, 11])
  c_law4_DeltaApplies_k8) Q e H := by_refl rfl
theorem u_law4_DeltaApplies_k10_e {P : Program} {Q : VEx → Env → List Ob → Prop} {e : Env} {H : List Ob} : vwp P c_law4_DeltaApplies_k10 Q e H = vwp P (.seq (.ops [⟨some 32, .p (.mov (.t 5)), none⟩,
    ⟨some 33, .p (.mov (.t 6)), none⟩,
    ⟨some 34, .s (.call 18 [.t 32, .t 33]), none⟩,
    ⟨some 31, .p (.mov (.t 34)), none⟩,
    ⟨some 35, .p (.ext 0 (.t 31)), none⟩,
    ⟨some 36, .p (.ext 1 (.t 31)), none⟩,
    ⟨some 7, .p (.mov (.t 35)), none⟩,
    ⟨some 8, .p (.mov (.t 36)), none⟩] [0, 1, 5, 6, 7, 8])
  c_law4_DeltaApplies_k9) Q e H := by_refl rfl
theorem u_law4_DeltaApplies_k11_e {P : Program} {Q : VEx → Env → List Ob → Prop} {e : Env} {H : List Ob} : vwp P c_law4_DeltaApplies_k11 Q e H = vwp P (.seq (.ops [⟨some 29, .p (.mov (.t 1)), none⟩,
    ⟨some 30, .s (.call 17 [.t 29]), none⟩,
    ⟨some 6, .p (.mov (.t 30)), none⟩] [0, 1, 5, 6])
  c_law4_DeltaApplies_k10) Q e H := by_refl rfl
theorem u_law4_DeltaApplies_k12_e {P : Program} {Q : VEx → Env → List Ob → Prop} {e : Env} {H : List Ob} : vwp P c_law4_DeltaApplies_k12 Q e H = vwp P (.seq (.ops [⟨some 27, .p (.mov (.t 0)), none⟩,
    ⟨some 28, .s (.call 17 [.t 27]), none⟩,
    ⟨some 5, .p (.mov (.t 28)), none⟩] [0, 1, 5])
  c_law4_DeltaApplies_k11) Q e H := by_refl rfl
theorem u_law4_DeltaApplies_k13_e {P : Program} {Q : VEx → Env → List Ob → Prop} {e : Env} {H : List Ob} : vwp P c_law4_DeltaApplies_k13 Q e H = vwp P (.seq (.seq (.ops [⟨some 21, .p (.mov (.t 0)), none⟩,
    ⟨some 22, .p (.lenV (.t 21)), none⟩,
    ⟨some 23, .p (.mov (.t 1)), none⟩,
    ⟨some 24, .p (.lenV (.t 23)), none⟩,
    ⟨some 25, .p (.bin 3 .add (.t 22) (.t 24)), none⟩,
    ⟨some 26, .p (.bin 3 .gtr (.t 25) (.c (.int .i64 ((300000 : Nat) : Int)))), none⟩] [0, 1, 26])
  (.cond (.t 26)
  (.seq (.ops [⟨some 4, .p (.mov (.c (.bool true))), none⟩] [4])
    (.ret))
  (.skip)))
  c_law4_DeltaApplies_k12) Q e H := by_refl rfl
theorem u_law4_DeltaApplies_e {P : Program} {Q : VEx → Env → List Ob → Prop} {e : Env} {H : List Ob} : vwp P c_law4_DeltaApplies Q e H = vwp P (.seq (.ops [⟨some 4, .p (.mov (.c (.bool false))), none⟩] [0, 1])
  c_law4_DeltaApplies_k13) Q e H := by_refl rfl
theorem u_law4_DeltaApplies_r {K : TV → Prop} {e : Env} {H : List Ob} : res r_law4_DeltaApplies e H K = res [.tmp 4] e H K := by_refl rfl
def u_law4_DeltaApplies := (And.intro (And.intro (And.intro (And.intro @u_law4_DeltaApplies_b1_e @u_law4_DeltaApplies_k2_e) (And.intro @u_law4_DeltaApplies_k3_e @u_law4_DeltaApplies_k4_e)) (And.intro (And.intro @u_law4_DeltaApplies_k5_e @u_law4_DeltaApplies_k6_e) (And.intro @u_law4_DeltaApplies_k7_e @u_law4_DeltaApplies_k8_e))) (And.intro (And.intro (And.intro @u_law4_DeltaApplies_k9_e @u_law4_DeltaApplies_k10_e) (And.intro @u_law4_DeltaApplies_k11_e @u_law4_DeltaApplies_k12_e)) (And.intro (And.intro @u_law4_DeltaApplies_k13_e @u_law4_DeltaApplies_e) @u_law4_DeltaApplies_r)))
theorem go_law4_DeltaApplies {args : List TV} {H : List Ob} {R : TV → List Ob → Prop} (hn : args.length ≤ 112) (h : vwp Tryd.prog c_law4_DeltaApplies (atEnd r_law4_DeltaApplies R) (argsE 0 args) H) : VCalls Tryd.prog 5 args H R := vcalls_of Tryd.func5 t_law4_DeltaApplies w_law4_DeltaApplies hn h

end Go.Proofs.YtknphdcjopaaoaaDoor
