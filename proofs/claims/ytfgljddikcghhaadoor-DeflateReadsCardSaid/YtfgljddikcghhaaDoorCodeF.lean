import Derived.Test.YtfgljddikcghhaaDoorBaseC
import Derived.Test.YtfgljddikcghhaaDoorProg
import Derived.KernelRfl
namespace Go.Proofs.YtfgljddikcghhaaDoor
variable [Globs]
set_option linter.unusedSectionVars false
set_option linter.unusedVariables false
set_option linter.defProp false
set_option maxRecDepth 100000

def c_deflate_Inflate_L1 : VCode := .seq (.seq (.ops [mv_ 63 8,
  po_ 64 (.un .not (.t 63))] [0, 4, 5, 6, 7, 64])
 (.cond (.t 64)
 (.skip)
 (.exit 0)))
 (.block 1 (.pops [mv_ 65 7,
  so_ 66 (.call 14 [.t 65]),
  mv_ 8 66] [0, 4, 5, 6, 7, 8]))
def c_deflate_Inflate_L2 : VCode := .seq (.ops [po_ 73 (.bin 3 .lss (.t 72) (.t 71))] [0, 4, 5, 6, 7, 9, 70, 71, 72, 73])
 (.seq (.cond (.t 73)
 (.skip)
 (.exit 2))
 (.seq (.block 3 (.seq (.ops [po_ 74 (.idxA 1 (.t 70) (.t 72)),
  po_ 75 (.load false 1 (.t 74)),
  mv_ 11 75] [0, 4, 5, 6, 7, 9, 11, 70, 71, 72])
 (.ops [mv_ 76 9,
  po_ 77 (.bin 36 .shl (.t 76) (.c (.int .u64 ((8 : Nat) : Int)))),
  mv_ 78 11,
  po_ 79 (.conv .u32 (.t 78)),
  po_ 80 (.bin 36 .or (.t 77) (.t 79)),
  mv_ 9 80] [0, 4, 5, 6, 7, 9, 70, 71, 72])))
 (.ops [po_ 81 (.bin 3 .add (.t 72) (ci_ 1)),
  mv_ 72 81] [0, 4, 5, 6, 7, 9, 70, 71, 72])))
def c_deflate_Inflate_k3 : VCode := .seq (.sdraw 12 [mv_ 90 7,
  po_ 91 (.nilc (.t 90)),
  po_ 92 (.fieldA 3 3 (.t 91)),
  po_ 93 (.load false 1 (.t 92)),
  mv_ 94 0,
  po_ 95 (.lenV (.t 94)),
  mv_ 96 7,
  po_ 97 (.nilc (.t 96)),
  po_ 98 (.fieldA 0 0 (.t 97)),
  po_ 99 (.load false 1 (.t 98)),
  po_ 100 (.lenV (.t 99)),
  po_ 101 (.bin 3 .sub (.t 95) (.t 100)),
  ⟨none, .s (.store 1 (.t 4) (.t 93)), none⟩,
  ⟨none, .s (.store 1 (.t 5) (.t 101)), none⟩,
  ⟨none, .s (.store 1 (.t 6) (.c .nilIface)), none⟩] [4, 5, 6])
 (.ret)
def c_deflate_Inflate_k4 : VCode := .seq (.seq (.ops [mv_ 82 9,
  mv_ 83 7,
  po_ 84 (.nilc (.t 83)),
  po_ 85 (.fieldA 3 3 (.t 84)),
  po_ 86 (.load false 1 (.t 85)),
  so_ 87 (.call 17 [.t 86]),
  po_ 88 (.bin 36 .neq (.t 82) (.t 87))] [0, 4, 5, 6, 7, 88])
 (.cond (.t 88)
 (.pops [po_ 89 (.iface 28 (ci_ 10)),
   ⟨none, .s (.pan (.t 89)), none⟩] [0, 4, 5, 6, 7])
 (.skip)))
 c_deflate_Inflate_k3
def c_deflate_Inflate_k5 : VCode := .seq (.seq (.pops [mv_ 69 7,
  so_ 70 (.call 16 [.t 69, .c (.int .i64 ((4 : Nat) : Int))]),
  po_ 71 (.lenV (.t 70)),
  po_ 72 (.mov (ci_ 0))] [0, 4, 5, 6, 7, 9, 70, 71, 72])
 (.block 2 (.loop [0, 4, 5, 6, 7, 9, 70, 71, 72] c_deflate_Inflate_L2)))
 c_deflate_Inflate_k4
def c_deflate_Inflate_k6 : VCode := .seq (.ops [po_ 9 (.mov (.c (.int .u32 ((0 : Nat) : Int))))] [0, 4, 5, 6, 7, 9])
 c_deflate_Inflate_k5
def c_deflate_Inflate_k7 : VCode := .seq (.ops [mv_ 67 7,
  so_ 68 (.call 15 [.t 67])] [0, 4, 5, 6, 7])
 c_deflate_Inflate_k6
def c_deflate_Inflate_k8 : VCode := .seq (.seq (.ops [po_ 8 (.mov (.c (.bool false)))] [0, 4, 5, 6, 7, 8])
 (.block 0 (.loop [0, 4, 5, 6, 7, 8] c_deflate_Inflate_L1)))
 c_deflate_Inflate_k7
def c_deflate_Inflate_k9 : VCode := .seq (.dead)
 c_deflate_Inflate_k8
def c_deflate_Inflate_k10 : VCode := .seq (.draw 3 [mv_ 51 0,
  po_ 52 (.slV 1 (.t 51) (some (ci_ 2)) none),
  mv_ 53 1,
  mv_ 54 0,
  po_ 55 (.idxA 1 (.t 54) (ci_ 0)),
  po_ 56 (.load false 1 (.t 55)),
  po_ 57 (.bin 5 .shr (.t 56) (.c (.int .u64 ((4 : Nat) : Int)))),
  po_ 58 (.bin 5 .add (.t 57) (.c (.int .u8 ((8 : Nat) : Int)))),
  po_ 59 (.bin 3 .shl (ci_ 1) (.t 58)),
  ⟨some 60, .p (.build [.val (.slice none 0 0), .val (.int .u32 ((0 : Nat) : Int)), .val (.int .i64 ((0 : Nat) : Int)), .val (.slice none 0 0), .val (.int .i64 ((0 : Nat) : Int)), .val (.int .i64 ((0 : Nat) : Int))] [1, 1, 1, 1, 1, 1] [⟨0, .t 52⟩, ⟨4, .t 53⟩, ⟨5, .t 59⟩]), none⟩,
  so_ 61 (.box (.t 60)),
  mv_ 7 61] [0, 4, 5, 6, 7])
 c_deflate_Inflate_k9
def c_deflate_Inflate_k11 : VCode := .seq (.seq (.draw 23 [mv_ 12 0,
  po_ 13 (.lenV (.t 12)),
  po_ 14 (.bin 3 .lss (.t 13) (ci_ 2)),
  mv_ 15 14,
  ⟨some 16, .p (.mov (.t 0)), some ⟨15, false⟩⟩,
  ⟨some 17, .p (.idxA 1 (.t 16) (ci_ 0)), some ⟨15, false⟩⟩,
  ⟨some 18, .p (.load false 1 (.t 17)), some ⟨15, false⟩⟩,
  ⟨some 19, .p (.bin 5 .and (.t 18) (.c (.int .u8 ((15 : Nat) : Int)))), some ⟨15, false⟩⟩,
  ⟨some 20, .p (.bin 5 .neq (.t 19) (.c (.int .u8 ((8 : Nat) : Int)))), some ⟨15, false⟩⟩,
  po_ 21 (.pick (.t 15) (.c (.bool true)) (.t 20)),
  mv_ 22 21,
  ⟨some 23, .p (.mov (.t 0)), some ⟨22, false⟩⟩,
  ⟨some 24, .p (.idxA 1 (.t 23) (ci_ 0)), some ⟨22, false⟩⟩,
  ⟨some 25, .p (.load false 1 (.t 24)), some ⟨22, false⟩⟩,
  ⟨some 26, .p (.bin 5 .shr (.t 25) (.c (.int .u64 ((4 : Nat) : Int)))), some ⟨22, false⟩⟩,
  ⟨some 27, .p (.bin 5 .gtr (.t 26) (.c (.int .u8 ((7 : Nat) : Int)))), some ⟨22, false⟩⟩,
  po_ 28 (.pick (.t 22) (.c (.bool true)) (.t 27)),
  mv_ 29 28,
  ⟨some 30, .p (.mov (.t 0)), some ⟨29, false⟩⟩,
  ⟨some 31, .p (.idxA 1 (.t 30) (ci_ 0)), some ⟨29, false⟩⟩,
  ⟨some 32, .p (.load false 1 (.t 31)), some ⟨29, false⟩⟩,
  ⟨some 33, .p (.conv .i64 (.t 32)), some ⟨29, false⟩⟩,
  ⟨some 34, .p (.bin 3 .shl (.t 33) (.c (.int .u64 ((8 : Nat) : Int)))), some ⟨29, false⟩⟩,
  ⟨some 35, .p (.mov (.t 0)), some ⟨29, false⟩⟩,
  ⟨some 36, .p (.idxA 1 (.t 35) (ci_ 1)), some ⟨29, false⟩⟩,
  ⟨some 37, .p (.load false 1 (.t 36)), some ⟨29, false⟩⟩,
  ⟨some 38, .p (.conv .i64 (.t 37)), some ⟨29, false⟩⟩,
  ⟨some 39, .p (.bin 3 .or (.t 34) (.t 38)), some ⟨29, false⟩⟩,
  ⟨some 40, .p (.bin 3 .rem (.t 39) (ci_ 31)), some ⟨29, false⟩⟩,
  ⟨some 41, .p (.bin 3 .neq (.t 40) (ci_ 0)), some ⟨29, false⟩⟩,
  po_ 42 (.pick (.t 29) (.c (.bool true)) (.t 41)),
  mv_ 43 42,
  ⟨some 44, .p (.mov (.t 0)), some ⟨43, false⟩⟩,
  ⟨some 45, .p (.idxA 1 (.t 44) (ci_ 1)), some ⟨43, false⟩⟩,
  ⟨some 46, .p (.load false 1 (.t 45)), some ⟨43, false⟩⟩,
  ⟨some 47, .p (.bin 5 .and (.t 46) (.c (.int .u8 ((32 : Nat) : Int)))), some ⟨43, false⟩⟩,
  ⟨some 48, .p (.bin 5 .neq (.t 47) (.c (.int .u8 ((0 : Nat) : Int)))), some ⟨43, false⟩⟩,
  po_ 49 (.pick (.t 43) (.c (.bool true)) (.t 48))] [0, 1, 4, 5, 6, 49])
 (.cond (.t 49)
 (.seq (.ops [po_ 50 (.iface 28 (ci_ 10)),
   ⟨none, .s (.store 1 (.t 4) (.c (.slice none 0 0))), none⟩,
   ⟨none, .s (.store 1 (.t 5) (ci_ 0)), none⟩,
   ⟨none, .s (.store 1 (.t 6) (.t 50)), none⟩] [4, 5, 6])
  (.ret))
 (.skip)))
 c_deflate_Inflate_k10
def c_deflate_Inflate : VCode := .seq (.ops [so_ 4 (.alloc (.val (.slice none 0 0))),
  so_ 5 (.alloc (.val (.int .i64 ((0 : Nat) : Int)))),
  so_ 6 (.alloc (.val .nilIface))] [0, 1, 4, 5, 6])
 c_deflate_Inflate_k11
def r_deflate_Inflate : List VR := [.cell 4 false 1, .cell 5 false 1, .cell 6 false 1]
theorem t_deflate_Inflate : Tryd.f7.body.bind (trC Tryd.prog Tryd.f7.ntmps) = some (er c_deflate_Inflate) := by kernel_rfl
theorem w_deflate_Inflate : trR Tryd.prog Tryd.f7.results.toList = some r_deflate_Inflate := by kernel_rfl
def u_deflate_Inflate_L1_e := code_eq c_deflate_Inflate_L1.eq_1
def u_deflate_Inflate_L2_e := code_eq c_deflate_Inflate_L2.eq_1
def u_deflate_Inflate_k3_e := code_eq c_deflate_Inflate_k3.eq_1
def u_deflate_Inflate_k4_e := code_eq c_deflate_Inflate_k4.eq_1
def u_deflate_Inflate_k5_e := code_eq c_deflate_Inflate_k5.eq_1
def u_deflate_Inflate_k6_e := code_eq c_deflate_Inflate_k6.eq_1
def u_deflate_Inflate_k7_e := code_eq c_deflate_Inflate_k7.eq_1
def u_deflate_Inflate_k8_e := code_eq c_deflate_Inflate_k8.eq_1
theorem u_deflate_Inflate_r {K : TV → Prop} {e : Env} {H : List Ob} : res r_deflate_Inflate e H K = res [.cell 4 false 1, .cell 5 false 1, .cell 6 false 1] e H K := by_refl rfl


end Go.Proofs.YtfgljddikcghhaaDoor

