import Derived.Test.YtfgljddikcghhaaDoorBaseC
import Derived.Test.YtfgljddikcghhaaDoorProg
import Derived.KernelRfl
namespace Go.Proofs.YtfgljddikcghhaaDoor
variable [Globs]
set_option linter.unusedSectionVars false
set_option linter.unusedVariables false
set_option linter.defProp false
set_option maxRecDepth 100000

def c_law1_DeflateReads_k1 : VCode := .seq (.ops [mv_ 46 10,
  mv_ 47 46,
  ⟨some 48, .p (.mov (.t 14)), some ⟨47, true⟩⟩,
  po_ 49 (.pick (.t 47) (.t 48) (.c (.bool false))),
  mv_ 50 49,
  ⟨some 51, .p (.mov (.t 7)), some ⟨50, true⟩⟩,
  ⟨some 52, .p (.mov (.t 12)), some ⟨50, true⟩⟩,
  ⟨some 53, .p (.bin 3 .eql (.t 51) (.t 52)), some ⟨50, true⟩⟩,
  po_ 54 (.pick (.t 50) (.t 53) (.c (.bool false))),
  mv_ 55 54,
  ⟨some 56, .p (.mov (.t 9)), some ⟨55, true⟩⟩,
  ⟨some 57, .p (.mov (.t 13)), some ⟨55, true⟩⟩,
  ⟨some 58, .p (.bin 3 .eql (.t 56) (.t 57)), some ⟨55, true⟩⟩,
  po_ 59 (.pick (.t 55) (.t 58) (.c (.bool false))),
  mv_ 60 59,
  ⟨some 61, .p (.mov (.t 13)), some ⟨60, true⟩⟩,
  ⟨some 62, .p (.bin 3 .eql (.t 61) (ci_ 0)), some ⟨60, true⟩⟩,
  ⟨some 63, .p (.mov (.t 62)), some ⟨60, true⟩⟩,
  ⟨some 64, .p (.mov (.t 6)), some ⟨63, false⟩⟩,
  ⟨some 65, .p (.lenV (.t 64)), some ⟨63, false⟩⟩,
  ⟨some 66, .p (.bin 3 .eql (.t 65) (ci_ 0)), some ⟨63, false⟩⟩,
  ⟨some 67, .p (.pick (.t 63) (.c (.bool true)) (.t 66)), some ⟨60, true⟩⟩,
  po_ 68 (.pick (.t 60) (.t 67) (.c (.bool false))),
  mv_ 4 68] [4])
 (.ret)
def c_law1_DeflateReads_k2 : VCode := .seq (.ops [mv_ 43 6,
  mv_ 44 11,
  so_ 45 (.call 11 [.t 43, .t 44]),
  mv_ 14 45] [6, 7, 9, 10, 12, 13, 14])
 c_law1_DeflateReads_k1
def c_law1_DeflateReads_k3 : VCode := .seq (.ops [mv_ 37 0,
  mv_ 38 1,
  so_ 39 (.call 10 [.t 37, .t 38]),
  mv_ 36 39,
  po_ 40 (.ext 0 (.t 36)),
  po_ 41 (.ext 1 (.t 36)),
  po_ 42 (.ext 2 (.t 36)),
  mv_ 11 40,
  mv_ 12 41,
  mv_ 13 42] [6, 7, 9, 10, 11, 12, 13])
 c_law1_DeflateReads_k2
def c_law1_DeflateReads_k4 : VCode := .seq (.ops [mv_ 33 5,
  mv_ 34 0,
  so_ 35 (.call 9 [.t 33, .t 34]),
  mv_ 10 35] [0, 1, 6, 7, 9, 10])
 c_law1_DeflateReads_k3
def c_law1_DeflateReads_k5 : VCode := .seq (.ops [mv_ 31 8,
  so_ 32 (.call 8 [.t 31]),
  mv_ 9 32] [0, 1, 5, 6, 7, 9])
 c_law1_DeflateReads_k4
def c_law1_DeflateReads_k6 : VCode := .seq (.ops [mv_ 25 5,
  mv_ 26 1,
  so_ 27 (.call 7 [.t 25, .t 26]),
  mv_ 24 27,
  po_ 28 (.ext 0 (.t 24)),
  po_ 29 (.ext 1 (.t 24)),
  po_ 30 (.ext 2 (.t 24)),
  mv_ 6 28,
  mv_ 7 29,
  mv_ 8 30] [0, 1, 5, 6, 7, 8])
 c_law1_DeflateReads_k5
def c_law1_DeflateReads_k7 : VCode := .seq (.ops [mv_ 22 0,
  so_ 23 (.call 6 [.t 22]),
  mv_ 5 23] [0, 1, 5])
 c_law1_DeflateReads_k6
def c_law1_DeflateReads_k8 : VCode := .seq (.seq (.ops [mv_ 15 0,
  po_ 16 (.lenV (.t 15)),
  po_ 17 (.bin 3 .gtr (.t 16) (ci_ 5000)),
  mv_ 18 17,
  ⟨some 19, .p (.mov (.t 1)), some ⟨18, false⟩⟩,
  ⟨some 20, .p (.bin 3 .gtr (.t 19) (ci_ 300000)), some ⟨18, false⟩⟩,
  po_ 21 (.pick (.t 18) (.c (.bool true)) (.t 20))] [0, 1, 21])
 (.cond (.t 21)
 (.seq (.ops [po_ 4 (.mov (.c (.bool true)))] [4])
  (.ret))
 (.skip)))
 c_law1_DeflateReads_k7
def c_law1_DeflateReads : VCode := .seq (.ops [po_ 4 (.mov (.c (.bool false)))] [0, 1])
 c_law1_DeflateReads_k8
def r_law1_DeflateReads : List VR := [.tmp 4]
theorem t_law1_DeflateReads : Tryd.f3.body.bind (trC Tryd.prog Tryd.f3.ntmps) = some (er c_law1_DeflateReads) := by kernel_rfl
theorem w_law1_DeflateReads : trR Tryd.prog Tryd.f3.results.toList = some r_law1_DeflateReads := by kernel_rfl
def u_law1_DeflateReads_k1_e := code_eq c_law1_DeflateReads_k1.eq_1
def u_law1_DeflateReads_k2_e := code_eq c_law1_DeflateReads_k2.eq_1
def u_law1_DeflateReads_k3_e := code_eq c_law1_DeflateReads_k3.eq_1
def u_law1_DeflateReads_k4_e := code_eq c_law1_DeflateReads_k4.eq_1
def u_law1_DeflateReads_k5_e := code_eq c_law1_DeflateReads_k5.eq_1
def u_law1_DeflateReads_k6_e := code_eq c_law1_DeflateReads_k6.eq_1
def u_law1_DeflateReads_k7_e := code_eq c_law1_DeflateReads_k7.eq_1
def u_law1_DeflateReads_k8_e := code_eq c_law1_DeflateReads_k8.eq_1
def u_law1_DeflateReads_e := code_eq c_law1_DeflateReads.eq_1
theorem u_law1_DeflateReads_r {K : TV → Prop} {e : Env} {H : List Ob} : res r_law1_DeflateReads e H K = res [.tmp 4] e H K := by_refl rfl
def u_law1_DeflateReads := (And.intro (And.intro (And.intro (And.intro @u_law1_DeflateReads_k1_e @u_law1_DeflateReads_k2_e) (And.intro @u_law1_DeflateReads_k3_e @u_law1_DeflateReads_k4_e)) (And.intro (And.intro @u_law1_DeflateReads_k5_e @u_law1_DeflateReads_k6_e) (And.intro @u_law1_DeflateReads_k7_e @u_law1_DeflateReads_k8_e))) (And.intro @u_law1_DeflateReads_e @u_law1_DeflateReads_r))
def go_law1_DeflateReads := go_of 69 Tryd.func3 t_law1_DeflateReads w_law1_DeflateReads rfl

def c_ref1_Inflate_b1 : VCode := .seq (.draw 4 [mv_ 78 7,
  po_ 79 (.nilc (.t 78)),
  po_ 80 (.fieldA 5 5 (.t 79)),
  po_ 81 (.load false 1 (.t 80)),
  po_ 4 (.mov (.c (.slice none 0 0))),
  po_ 5 (.mov (ci_ 0)),
  mv_ 6 81] [4, 5, 6])
 (.ret)
def c_ref1_Inflate_k2 : VCode := .seq (.block 1 (.ops [mv_ 86 9,
  po_ 87 (.bin 36 .mul (.t 86) (.c (.int .u32 ((256 : Nat) : Int)))),
  mv_ 88 0,
  mv_ 89 8,
  mv_ 90 10,
  po_ 91 (.bin 3 .add (.t 89) (.t 90)),
  po_ 92 (.idxA 1 (.t 88) (.t 91)),
  po_ 93 (.load false 1 (.t 92)),
  po_ 94 (.conv .u32 (.t 93)),
  po_ 95 (.bin 36 .add (.t 87) (.t 94)),
  mv_ 9 95] [0, 7, 8, 9, 10]))
 (.ops [mv_ 84 10,
  po_ 85 (.bin 3 .add (.t 84) (ci_ 1)),
  mv_ 10 85] [0, 7, 8, 9, 10])
def c_ref1_Inflate_L3 : VCode := .seq (.seq (.ops [mv_ 82 10,
  po_ 83 (.bin 3 .lss (.t 82) (ci_ 4))] [0, 7, 8, 9, 10, 83])
 (.cond (.t 83)
 (.skip)
 (.exit 0)))
 c_ref1_Inflate_k2
def c_ref1_Inflate_k4 : VCode := .block 0 (.loop [0, 7, 8, 9, 10] c_ref1_Inflate_L3)
def c_ref1_Inflate_k5 : VCode := .seq (.seq (.ops [mv_ 96 9,
  mv_ 97 7,
  po_ 98 (.nilc (.t 97)),
  po_ 99 (.fieldA 2 2 (.t 98)),
  po_ 100 (.load false 1 (.t 99)),
  so_ 101 (.call 20 [.t 100]),
  po_ 102 (.bin 36 .neq (.t 96) (.t 101))] [7, 8, 102])
 (.cond (.t 102)
 (.seq (.ops [po_ 4 (.mov (.c (.slice none 0 0))),
   po_ 5 (.mov (ci_ 0)),
   po_ 6 (.mov (ci_ 10))] [4, 5, 6])
  (.ret))
 (.skip)))
 (.seq (.ops [mv_ 103 7,
  po_ 104 (.nilc (.t 103)),
  po_ 105 (.fieldA 2 2 (.t 104)),
  po_ 106 (.load false 1 (.t 105)),
  mv_ 107 8,
  po_ 108 (.bin 3 .add (.t 107) (ci_ 4)),
  mv_ 4 106,
  mv_ 5 108,
  po_ 6 (.mov (ci_ 0))] [4, 5, 6])
 (.ret))
def c_ref1_Inflate_k6 : VCode := .seq (.seq (.ops [po_ 10 (.mov (ci_ 0))] [0, 7, 8, 9, 10])
 c_ref1_Inflate_k4)
 c_ref1_Inflate_k5
def c_ref1_Inflate_k7 : VCode := .seq (.ops [po_ 9 (.mov (.c (.int .u32 ((0 : Nat) : Int))))] [0, 7, 8, 9])
 c_ref1_Inflate_k6
def c_ref1_Inflate_k8 : VCode := .seq (.seq (.ops [mv_ 73 7,
  po_ 74 (.nilc (.t 73)),
  po_ 75 (.fieldA 5 5 (.t 74)),
  po_ 76 (.load false 1 (.t 75)),
  po_ 77 (.bin 3 .neq (.t 76) (ci_ 0))] [0, 7, 8, 77])
 (.cond (.t 77)
 c_ref1_Inflate_b1
 (.skip)))
 c_ref1_Inflate_k7
def c_ref1_Inflate_k9 : VCode := .seq (.seq (.ops [mv_ 58 7,
  po_ 59 (.nilc (.t 58)),
  po_ 60 (.fieldA 5 5 (.t 59)),
  po_ 61 (.load false 1 (.t 60)),
  po_ 62 (.bin 3 .eql (.t 61) (ci_ 0)),
  mv_ 63 62,
  ⟨some 64, .p (.mov (.t 0)), some ⟨63, true⟩⟩,
  ⟨some 65, .p (.lenV (.t 64)), some ⟨63, true⟩⟩,
  ⟨some 66, .p (.mov (.t 8)), some ⟨63, true⟩⟩,
  ⟨some 67, .p (.bin 3 .sub (.t 65) (.t 66)), some ⟨63, true⟩⟩,
  ⟨some 68, .p (.bin 3 .lss (.t 67) (ci_ 4)), some ⟨63, true⟩⟩,
  po_ 69 (.pick (.t 63) (.t 68) (.c (.bool false)))] [0, 7, 8, 69])
 (.cond (.t 69)
 (.ops [mv_ 70 7,
   po_ 71 (.nilc (.t 70)),
   po_ 72 (.fieldA 5 5 (.t 71)),
   ⟨none, .s (.store 1 (.t 72) (ci_ 10)), none⟩] [0, 7, 8])
 (.skip)))
 c_ref1_Inflate_k8
def c_ref1_Inflate_k10 : VCode := .seq (.ops [mv_ 52 7,
  po_ 53 (.nilc (.t 52)),
  po_ 54 (.fieldA 1 1 (.t 53)),
  po_ 55 (.load false 1 (.t 54)),
  po_ 56 (.bin 3 .add (.t 55) (ci_ 7)),
  po_ 57 (.bin 3 .quo (.t 56) (ci_ 8)),
  mv_ 8 57] [0, 7, 8])
 c_ref1_Inflate_k9
def c_ref1_Inflate_k11 : VCode := .seq (.ops [mv_ 49 0,
  mv_ 50 1,
  so_ 51 (.call 19 [.t 49, .t 50]),
  mv_ 7 51] [0, 7])
 c_ref1_Inflate_k10
def c_ref1_Inflate_k12 : VCode := .seq (.seq (.draw 23 [mv_ 11 0,
  po_ 12 (.lenV (.t 11)),
  po_ 13 (.bin 3 .lss (.t 12) (ci_ 2)),
  mv_ 14 13,
  ⟨some 15, .p (.mov (.t 0)), some ⟨14, false⟩⟩,
  ⟨some 16, .p (.idxA 1 (.t 15) (ci_ 0)), some ⟨14, false⟩⟩,
  ⟨some 17, .p (.load false 1 (.t 16)), some ⟨14, false⟩⟩,
  ⟨some 18, .p (.bin 5 .rem (.t 17) (.c (.int .u8 ((16 : Nat) : Int)))), some ⟨14, false⟩⟩,
  ⟨some 19, .p (.bin 5 .neq (.t 18) (.c (.int .u8 ((8 : Nat) : Int)))), some ⟨14, false⟩⟩,
  po_ 20 (.pick (.t 14) (.c (.bool true)) (.t 19)),
  mv_ 21 20,
  ⟨some 22, .p (.mov (.t 0)), some ⟨21, false⟩⟩,
  ⟨some 23, .p (.idxA 1 (.t 22) (ci_ 0)), some ⟨21, false⟩⟩,
  ⟨some 24, .p (.load false 1 (.t 23)), some ⟨21, false⟩⟩,
  ⟨some 25, .p (.bin 5 .quo (.t 24) (.c (.int .u8 ((16 : Nat) : Int)))), some ⟨21, false⟩⟩,
  ⟨some 26, .p (.bin 5 .gtr (.t 25) (.c (.int .u8 ((7 : Nat) : Int)))), some ⟨21, false⟩⟩,
  po_ 27 (.pick (.t 21) (.c (.bool true)) (.t 26)),
  mv_ 28 27,
  ⟨some 29, .p (.mov (.t 0)), some ⟨28, false⟩⟩,
  ⟨some 30, .p (.idxA 1 (.t 29) (ci_ 0)), some ⟨28, false⟩⟩,
  ⟨some 31, .p (.load false 1 (.t 30)), some ⟨28, false⟩⟩,
  ⟨some 32, .p (.conv .i64 (.t 31)), some ⟨28, false⟩⟩,
  ⟨some 33, .p (.bin 3 .mul (.t 32) (ci_ 256)), some ⟨28, false⟩⟩,
  ⟨some 34, .p (.mov (.t 0)), some ⟨28, false⟩⟩,
  ⟨some 35, .p (.idxA 1 (.t 34) (ci_ 1)), some ⟨28, false⟩⟩,
  ⟨some 36, .p (.load false 1 (.t 35)), some ⟨28, false⟩⟩,
  ⟨some 37, .p (.conv .i64 (.t 36)), some ⟨28, false⟩⟩,
  ⟨some 38, .p (.bin 3 .add (.t 33) (.t 37)), some ⟨28, false⟩⟩,
  ⟨some 39, .p (.bin 3 .rem (.t 38) (ci_ 31)), some ⟨28, false⟩⟩,
  ⟨some 40, .p (.bin 3 .neq (.t 39) (ci_ 0)), some ⟨28, false⟩⟩,
  po_ 41 (.pick (.t 28) (.c (.bool true)) (.t 40)),
  mv_ 42 41,
  ⟨some 43, .p (.mov (.t 0)), some ⟨42, false⟩⟩,
  ⟨some 44, .p (.idxA 1 (.t 43) (ci_ 1)), some ⟨42, false⟩⟩,
  ⟨some 45, .p (.load false 1 (.t 44)), some ⟨42, false⟩⟩,
  ⟨some 46, .p (.bin 5 .and (.t 45) (.c (.int .u8 ((32 : Nat) : Int)))), some ⟨42, false⟩⟩,
  ⟨some 47, .p (.bin 5 .neq (.t 46) (.c (.int .u8 ((0 : Nat) : Int)))), some ⟨42, false⟩⟩,
  po_ 48 (.pick (.t 42) (.c (.bool true)) (.t 47))] [0, 1, 48])
 (.cond (.t 48)
 (.seq (.ops [po_ 4 (.mov (.c (.slice none 0 0))),
   po_ 5 (.mov (ci_ 0)),
   po_ 6 (.mov (ci_ 10))] [4, 5, 6])
  (.ret))
 (.skip)))
 c_ref1_Inflate_k11
def c_ref1_Inflate : VCode := .seq (.ops [po_ 4 (.mov (.c (.slice none 0 0))),
  po_ 5 (.mov (ci_ 0)),
  po_ 6 (.mov (ci_ 0))] [0, 1])
 c_ref1_Inflate_k12
def r_ref1_Inflate : List VR := [.tmp 4, .tmp 5, .tmp 6]
theorem t_ref1_Inflate : Tryd.f10.body.bind (trC Tryd.prog Tryd.f10.ntmps) = some (er c_ref1_Inflate) := by kernel_rfl
theorem w_ref1_Inflate : trR Tryd.prog Tryd.f10.results.toList = some r_ref1_Inflate := by kernel_rfl
def u_ref1_Inflate_b1_e := code_eq c_ref1_Inflate_b1.eq_1
def u_ref1_Inflate_k2_e := code_eq c_ref1_Inflate_k2.eq_1
def u_ref1_Inflate_L3_e := code_eq c_ref1_Inflate_L3.eq_1
def u_ref1_Inflate_k4_e := code_eq c_ref1_Inflate_k4.eq_1
def u_ref1_Inflate_k5_e := code_eq c_ref1_Inflate_k5.eq_1
def u_ref1_Inflate_k6_e := code_eq c_ref1_Inflate_k6.eq_1
def u_ref1_Inflate_k7_e := code_eq c_ref1_Inflate_k7.eq_1
def u_ref1_Inflate_k8_e := code_eq c_ref1_Inflate_k8.eq_1
def u_ref1_Inflate_k9_e := code_eq c_ref1_Inflate_k9.eq_1
def u_ref1_Inflate_k10_e := code_eq c_ref1_Inflate_k10.eq_1
def u_ref1_Inflate_k11_e := code_eq c_ref1_Inflate_k11.eq_1
def u_ref1_Inflate_k12_e := code_eq c_ref1_Inflate_k12.eq_1
def u_ref1_Inflate_e := code_eq c_ref1_Inflate.eq_1
theorem u_ref1_Inflate_r {K : TV → Prop} {e : Env} {H : List Ob} : res r_ref1_Inflate e H K = res [.tmp 4, .tmp 5, .tmp 6] e H K := by_refl rfl
def u_ref1_Inflate := (And.intro (And.intro (And.intro (And.intro @u_ref1_Inflate_b1_e @u_ref1_Inflate_k2_e) (And.intro @u_ref1_Inflate_L3_e @u_ref1_Inflate_k4_e)) (And.intro (And.intro @u_ref1_Inflate_k5_e @u_ref1_Inflate_k6_e) (And.intro @u_ref1_Inflate_k7_e @u_ref1_Inflate_k8_e))) (And.intro (And.intro (And.intro @u_ref1_Inflate_k9_e @u_ref1_Inflate_k10_e) (And.intro @u_ref1_Inflate_k11_e @u_ref1_Inflate_k12_e)) (And.intro @u_ref1_Inflate_e @u_ref1_Inflate_r)))
def go_ref1_Inflate := go_of 109 Tryd.func10 t_ref1_Inflate w_ref1_Inflate rfl

def c_ref1_blocks_b1 : VCode := .seq (.ops [so_ 73 (.call 37 []),
  mv_ 72 73,
  po_ 74 (.ext 0 (.t 72)),
  po_ 75 (.ext 1 (.t 72)),
  so_ 8 (.alloc (.agg [.val (.slice none 0 0), .val (.slice none 0 0)])),
  so_ 9 (.alloc (.agg [.val (.slice none 0 0), .val (.slice none 0 0)])),
  ⟨none, .s (.store 2 (.t 8) (.t 74)), none⟩,
  ⟨none, .s (.store 2 (.t 9) (.t 75)), none⟩] [5, 6, 8, 9])
 (.ops [mv_ 76 5,
  po_ 77 (.load true 2 (.t 8)),
  po_ 78 (.load true 2 (.t 9)),
  so_ 79 (.call 38 [.t 76, .t 77, .t 78])] [5, 6])
def c_ref1_blocks_b2 : VCode := .seq (.ops [mv_ 39 5,
  so_ 40 (.call 39 [.t 39]),
  mv_ 38 40,
  po_ 41 (.ext 0 (.t 38)),
  po_ 42 (.ext 1 (.t 38)),
  po_ 43 (.ext 2 (.t 38)),
  so_ 10 (.alloc (.agg [.val (.slice none 0 0), .val (.slice none 0 0)])),
  so_ 11 (.alloc (.agg [.val (.slice none 0 0), .val (.slice none 0 0)])),
  ⟨none, .s (.store 2 (.t 10) (.t 41)), none⟩,
  ⟨none, .s (.store 2 (.t 11) (.t 42)), none⟩,
  mv_ 12 43] [5, 6, 10, 11, 12])
 (.seq (.seq (.ops [mv_ 44 12,
  po_ 45 (.un .not (.t 44))] [5, 6, 10, 11, 45])
 (.cond (.t 45)
 (.ops [mv_ 46 5,
   so_ 47 (.call 35 [.t 46, .c (.int .i64 ((10 : Nat) : Int))])] [5, 6, 10, 11])
 (.skip)))
 (.ops [mv_ 48 5,
  po_ 49 (.load true 2 (.t 10)),
  po_ 50 (.load true 2 (.t 11)),
  so_ 51 (.call 38 [.t 48, .t 49, .t 50])] [5, 6]))
def c_ref1_blocks_k3 : VCode := .cond (.t 69)
 c_ref1_blocks_b1
 c_ref1_blocks_b2
def c_ref1_blocks_b4 : VCode := .seq (.ops [mv_ 70 7,
  po_ 71 (.bin 3 .eql (.t 70) (ci_ 1)),
  mv_ 69 71] [5, 6, 69])
 c_ref1_blocks_k3
def c_ref1_blocks_k5 : VCode := .cond (.t 64)
 (.ops [mv_ 67 5,
   so_ 68 (.call 36 [.t 67])] [5, 6])
 c_ref1_blocks_b4
def c_ref1_blocks_b6 : VCode := .seq (.ops [mv_ 65 7,
  po_ 66 (.bin 3 .eql (.t 65) (ci_ 0)),
  mv_ 64 66] [5, 6, 7, 64])
 c_ref1_blocks_k5
def c_ref1_blocks_k7 : VCode := .cond (.t 52)
 (.ops [mv_ 62 5,
   so_ 63 (.call 35 [.t 62, .c (.int .i64 ((10 : Nat) : Int))])] [5, 6])
 c_ref1_blocks_b6
def c_ref1_blocks_k8 : VCode := .block 2 (.seq (.ops [mv_ 53 5,
  po_ 54 (.nilc (.t 53)),
  po_ 55 (.fieldA 5 5 (.t 54)),
  po_ 56 (.load false 1 (.t 55)),
  po_ 57 (.bin 3 .neq (.t 56) (ci_ 0)),
  mv_ 58 57,
  ⟨some 59, .p (.mov (.t 7)), some ⟨58, false⟩⟩,
  ⟨some 60, .p (.bin 3 .eql (.t 59) (ci_ 3)), some ⟨58, false⟩⟩,
  po_ 61 (.pick (.t 58) (.c (.bool true)) (.t 60)),
  mv_ 52 61] [5, 6, 7, 52])
 c_ref1_blocks_k7)
def c_ref1_blocks_k9 : VCode := .seq (.ops [mv_ 36 5,
  so_ 37 (.call 34 [.t 36, .c (.int .i64 ((2 : Nat) : Int))]),
  mv_ 7 37] [5, 6, 7])
 c_ref1_blocks_k8
def c_ref1_blocks_k10 : VCode := .block 1 (.seq (.ops [mv_ 34 5,
  so_ 35 (.call 34 [.t 34, .c (.int .i64 ((1 : Nat) : Int))]),
  mv_ 6 35] [5, 6])
 c_ref1_blocks_k9)
def c_ref1_blocks_L11 : VCode := .seq (.seq (.ops [mv_ 25 6,
  po_ 26 (.bin 3 .eql (.t 25) (ci_ 0)),
  mv_ 27 26,
  ⟨some 28, .p (.mov (.t 5)), some ⟨27, true⟩⟩,
  ⟨some 29, .p (.nilc (.t 28)), some ⟨27, true⟩⟩,
  ⟨some 30, .p (.fieldA 5 5 (.t 29)), some ⟨27, true⟩⟩,
  ⟨some 31, .p (.load false 1 (.t 30)), some ⟨27, true⟩⟩,
  ⟨some 32, .p (.bin 3 .eql (.t 31) (ci_ 0)), some ⟨27, true⟩⟩,
  po_ 33 (.pick (.t 27) (.t 32) (.c (.bool false)))] [5, 33])
 (.cond (.t 33)
 (.skip)
 (.exit 0)))
 c_ref1_blocks_k10
def c_ref1_blocks_k12 : VCode := .seq (.ops [mv_ 80 5,
  mv_ 4 80] [4])
 (.ret)
def c_ref1_blocks_k13 : VCode := .seq (.block 0 (.loop [5, 6] c_ref1_blocks_L11))
 c_ref1_blocks_k12
def c_ref1_blocks_k14 : VCode := .seq (.ops [po_ 6 (.mov (ci_ 0))] [5, 6])
 c_ref1_blocks_k13
def c_ref1_blocks_k15 : VCode := .seq (.ops [mv_ 13 0,
  mv_ 14 1,
  mv_ 15 0,
  po_ 16 (.idxA 1 (.t 15) (ci_ 0)),
  po_ 17 (.load false 1 (.t 16)),
  po_ 18 (.conv .i64 (.t 17)),
  po_ 19 (.bin 3 .quo (.t 18) (ci_ 16)),
  po_ 20 (.bin 3 .rem (.t 19) (ci_ 8)),
  po_ 21 (.bin 3 .add (.t 20) (ci_ 8)),
  po_ 22 (.bin 3 .shl (ci_ 1) (.t 21)),
  ⟨some 23, .p (.build [.val (.slice none 0 0), .val (.int .i64 ((0 : Nat) : Int)), .val (.slice none 0 0), .val (.int .i64 ((0 : Nat) : Int)), .val (.int .i64 ((0 : Nat) : Int)), .val (.int .i64 ((0 : Nat) : Int))] [1, 1, 1, 1, 1, 1] [⟨0, .t 13⟩, ⟨1, .c (.int .i64 ((16 : Nat) : Int))⟩, ⟨3, .t 14⟩, ⟨4, .t 22⟩]), none⟩,
  so_ 24 (.box (.t 23)),
  mv_ 5 24] [5])
 c_ref1_blocks_k14
def c_ref1_blocks : VCode := .seq (.ops [po_ 4 (.mov (.c (.pointer none)))] [0, 1])
 c_ref1_blocks_k15
def r_ref1_blocks : List VR := [.tmp 4]
theorem t_ref1_blocks : Tryd.f19.body.bind (trC Tryd.prog Tryd.f19.ntmps) = some (er c_ref1_blocks) := by kernel_rfl
theorem w_ref1_blocks : trR Tryd.prog Tryd.f19.results.toList = some r_ref1_blocks := by kernel_rfl
def u_ref1_blocks_b1_e := code_eq c_ref1_blocks_b1.eq_1
def u_ref1_blocks_b2_e := code_eq c_ref1_blocks_b2.eq_1
def u_ref1_blocks_k3_e := code_eq c_ref1_blocks_k3.eq_1
def u_ref1_blocks_b4_e := code_eq c_ref1_blocks_b4.eq_1
def u_ref1_blocks_k5_e := code_eq c_ref1_blocks_k5.eq_1
def u_ref1_blocks_b6_e := code_eq c_ref1_blocks_b6.eq_1
def u_ref1_blocks_k7_e := code_eq c_ref1_blocks_k7.eq_1
def u_ref1_blocks_k8_e := code_eq c_ref1_blocks_k8.eq_1
def u_ref1_blocks_k9_e := code_eq c_ref1_blocks_k9.eq_1
def u_ref1_blocks_k10_e := code_eq c_ref1_blocks_k10.eq_1
def u_ref1_blocks_L11_e := code_eq c_ref1_blocks_L11.eq_1
def u_ref1_blocks_k12_e := code_eq c_ref1_blocks_k12.eq_1
def u_ref1_blocks_k13_e := code_eq c_ref1_blocks_k13.eq_1
def u_ref1_blocks_k14_e := code_eq c_ref1_blocks_k14.eq_1
def u_ref1_blocks_k15_e := code_eq c_ref1_blocks_k15.eq_1
def u_ref1_blocks_e := code_eq c_ref1_blocks.eq_1
theorem u_ref1_blocks_r {K : TV → Prop} {e : Env} {H : List Ob} : res r_ref1_blocks e H K = res [.tmp 4] e H K := by_refl rfl
def u_ref1_blocks := (And.intro (And.intro (And.intro (And.intro (And.intro @u_ref1_blocks_b1_e @u_ref1_blocks_b2_e) (And.intro @u_ref1_blocks_k3_e @u_ref1_blocks_b4_e)) (And.intro (And.intro @u_ref1_blocks_k5_e @u_ref1_blocks_b6_e) (And.intro @u_ref1_blocks_k7_e @u_ref1_blocks_k8_e))) (And.intro (And.intro (And.intro @u_ref1_blocks_k9_e @u_ref1_blocks_k10_e) (And.intro @u_ref1_blocks_L11_e @u_ref1_blocks_k12_e)) (And.intro (And.intro @u_ref1_blocks_k13_e @u_ref1_blocks_k14_e) (And.intro @u_ref1_blocks_k15_e @u_ref1_blocks_e)))) @u_ref1_blocks_r)
def go_ref1_blocks := go_of 81 Tryd.func19 t_ref1_blocks w_ref1_blocks rfl

def c_ref1_Stream_bits_k1 : VCode := .seq (.ops [mv_ 45 5,
  mv_ 46 7,
  mv_ 47 6,
  po_ 48 (.bin 3 .shl (.t 46) (.t 47)),
  po_ 49 (.bin 3 .add (.t 45) (.t 48)),
  mv_ 5 49] [0, 1, 5, 6])
 (.ops [mv_ 50 0,
  mv_ 51 0,
  po_ 52 (.nilc (.t 51)),
  po_ 53 (.fieldA 1 1 (.t 52)),
  po_ 54 (.load false 1 (.t 53)),
  po_ 55 (.bin 3 .add (.t 54) (ci_ 1)),
  po_ 56 (.nilc (.t 50)),
  po_ 57 (.fieldA 1 1 (.t 56)),
  ⟨none, .s (.store 1 (.t 57) (.t 55)), none⟩] [0, 1, 5, 6])
def c_ref1_Stream_bits_k2 : VCode := .seq (.draw 12 [mv_ 26 0,
  po_ 27 (.nilc (.t 26)),
  po_ 28 (.fieldA 0 0 (.t 27)),
  po_ 29 (.load false 1 (.t 28)),
  mv_ 30 0,
  po_ 31 (.nilc (.t 30)),
  po_ 32 (.fieldA 1 1 (.t 31)),
  po_ 33 (.load false 1 (.t 32)),
  po_ 34 (.bin 3 .quo (.t 33) (ci_ 8)),
  po_ 35 (.idxA 1 (.t 29) (.t 34)),
  po_ 36 (.load false 1 (.t 35)),
  po_ 37 (.conv .i64 (.t 36)),
  mv_ 38 0,
  po_ 39 (.nilc (.t 38)),
  po_ 40 (.fieldA 1 1 (.t 39)),
  po_ 41 (.load false 1 (.t 40)),
  po_ 42 (.bin 3 .rem (.t 41) (ci_ 8)),
  po_ 43 (.bin 3 .shr (.t 37) (.t 42)),
  po_ 44 (.bin 3 .and (.t 43) (ci_ 1)),
  mv_ 7 44] [0, 1, 5, 6, 7])
 c_ref1_Stream_bits_k1
def c_ref1_Stream_bits_k3 : VCode := .seq (.block 1 (.seq (.seq (.draw 4 [mv_ 13 0,
  po_ 14 (.nilc (.t 13)),
  po_ 15 (.fieldA 1 1 (.t 14)),
  po_ 16 (.load false 1 (.t 15)),
  mv_ 17 0,
  po_ 18 (.nilc (.t 17)),
  po_ 19 (.fieldA 0 0 (.t 18)),
  po_ 20 (.load false 1 (.t 19)),
  po_ 21 (.lenV (.t 20)),
  po_ 22 (.bin 3 .mul (ci_ 8) (.t 21)),
  po_ 23 (.bin 3 .geq (.t 16) (.t 22))] [0, 1, 5, 6, 23])
 (.cond (.t 23)
 (.seq (.ops [mv_ 24 0,
   so_ 25 (.call 35 [.t 24, .c (.int .i64 ((10 : Nat) : Int))])] [])
  (.seq (.ops [po_ 4 (.mov (ci_ 0))] [4])
  (.ret)))
 (.skip)))
 c_ref1_Stream_bits_k2))
 (.ops [mv_ 11 6,
  po_ 12 (.bin 3 .add (.t 11) (ci_ 1)),
  mv_ 6 12] [0, 1, 5, 6])
def c_ref1_Stream_bits_L4 : VCode := .seq (.seq (.ops [mv_ 8 6,
  mv_ 9 1,
  po_ 10 (.bin 3 .lss (.t 8) (.t 9))] [0, 1, 5, 6, 10])
 (.cond (.t 10)
 (.skip)
 (.exit 0)))
 c_ref1_Stream_bits_k3
def c_ref1_Stream_bits_k5 : VCode := .block 0 (.loop [0, 1, 5, 6] c_ref1_Stream_bits_L4)
def c_ref1_Stream_bits_k6 : VCode := .seq (.ops [mv_ 58 5,
  mv_ 4 58] [4])
 (.ret)
def c_ref1_Stream_bits_k7 : VCode := .seq (.seq (.ops [po_ 6 (.mov (ci_ 0))] [0, 1, 5, 6])
 c_ref1_Stream_bits_k5)
 c_ref1_Stream_bits_k6
def c_ref1_Stream_bits_k8 : VCode := .seq (.ops [po_ 5 (.mov (ci_ 0))] [0, 1, 5])
 c_ref1_Stream_bits_k7
def c_ref1_Stream_bits : VCode := .seq (.ops [po_ 4 (.mov (ci_ 0))] [0, 1])
 c_ref1_Stream_bits_k8
def r_ref1_Stream_bits : List VR := [.tmp 4]
theorem t_ref1_Stream_bits : Tryd.f34.body.bind (trC Tryd.prog Tryd.f34.ntmps) = some (er c_ref1_Stream_bits) := by kernel_rfl
theorem w_ref1_Stream_bits : trR Tryd.prog Tryd.f34.results.toList = some r_ref1_Stream_bits := by kernel_rfl
def u_ref1_Stream_bits_k1_e := code_eq c_ref1_Stream_bits_k1.eq_1
def u_ref1_Stream_bits_k2_e := code_eq c_ref1_Stream_bits_k2.eq_1
def u_ref1_Stream_bits_k3_e := code_eq c_ref1_Stream_bits_k3.eq_1
def u_ref1_Stream_bits_L4_e := code_eq c_ref1_Stream_bits_L4.eq_1
def u_ref1_Stream_bits_k5_e := code_eq c_ref1_Stream_bits_k5.eq_1
def u_ref1_Stream_bits_k6_e := code_eq c_ref1_Stream_bits_k6.eq_1
def u_ref1_Stream_bits_k7_e := code_eq c_ref1_Stream_bits_k7.eq_1
def u_ref1_Stream_bits_k8_e := code_eq c_ref1_Stream_bits_k8.eq_1
def u_ref1_Stream_bits_e := code_eq c_ref1_Stream_bits.eq_1
theorem u_ref1_Stream_bits_r {K : TV → Prop} {e : Env} {H : List Ob} : res r_ref1_Stream_bits e H K = res [.tmp 4] e H K := by_refl rfl
def u_ref1_Stream_bits := (And.intro (And.intro (And.intro (And.intro @u_ref1_Stream_bits_k1_e @u_ref1_Stream_bits_k2_e) (And.intro @u_ref1_Stream_bits_k3_e @u_ref1_Stream_bits_L4_e)) (And.intro (And.intro @u_ref1_Stream_bits_k5_e @u_ref1_Stream_bits_k6_e) (And.intro @u_ref1_Stream_bits_k7_e @u_ref1_Stream_bits_k8_e))) (And.intro @u_ref1_Stream_bits_e @u_ref1_Stream_bits_r))
def go_ref1_Stream_bits := go_of 59 Tryd.func34 t_ref1_Stream_bits w_ref1_Stream_bits rfl

def c_ref1_Stream_fail : VCode := .seq (.ops [mv_ 4 0,
  po_ 5 (.nilc (.t 4)),
  po_ 6 (.fieldA 5 5 (.t 5)),
  po_ 7 (.load false 1 (.t 6)),
  po_ 8 (.bin 3 .eql (.t 7) (ci_ 0))] [0, 1, 8])
 (.cond (.t 8)
 (.ops [mv_ 9 0,
   mv_ 10 1,
   po_ 11 (.nilc (.t 9)),
   po_ 12 (.fieldA 5 5 (.t 11)),
   ⟨none, .s (.store 1 (.t 12) (.t 10)), none⟩] [])
 (.skip))
def r_ref1_Stream_fail : List VR := []
theorem t_ref1_Stream_fail : Tryd.f35.body.bind (trC Tryd.prog Tryd.f35.ntmps) = some (er c_ref1_Stream_fail) := by kernel_rfl
theorem w_ref1_Stream_fail : trR Tryd.prog Tryd.f35.results.toList = some r_ref1_Stream_fail := by kernel_rfl
def u_ref1_Stream_fail_e := code_eq c_ref1_Stream_fail.eq_1
theorem u_ref1_Stream_fail_r {K : TV → Prop} {e : Env} {H : List Ob} : res r_ref1_Stream_fail e H K = res [] e H K := by_refl rfl
def u_ref1_Stream_fail := (And.intro @u_ref1_Stream_fail_e @u_ref1_Stream_fail_r)
def go_ref1_Stream_fail := go_of 13 Tryd.func35 t_ref1_Stream_fail w_ref1_Stream_fail rfl

def c_ref1_Stream_stored_k1 : VCode := .seq (.block 1 (.ops [mv_ 54 0,
  mv_ 55 0,
  po_ 56 (.nilc (.t 55)),
  po_ 57 (.fieldA 0 0 (.t 56)),
  po_ 58 (.load false 1 (.t 57)),
  mv_ 59 4,
  mv_ 60 5,
  po_ 61 (.bin 3 .add (.t 59) (.t 60)),
  po_ 62 (.idxA 1 (.t 58) (.t 61)),
  po_ 63 (.load false 1 (.t 62)),
  so_ 64 (.call 53 [.t 54, .t 63])] [0, 2, 4, 5]))
 (.ops [mv_ 52 5,
  po_ 53 (.bin 3 .add (.t 52) (ci_ 1)),
  mv_ 5 53] [0, 2, 4, 5])
def c_ref1_Stream_stored_L2 : VCode := .seq (.seq (.ops [mv_ 49 5,
  mv_ 50 2,
  po_ 51 (.bin 3 .lss (.t 49) (.t 50))] [0, 2, 4, 5, 51])
 (.cond (.t 51)
 (.skip)
 (.exit 0)))
 c_ref1_Stream_stored_k1
def c_ref1_Stream_stored_k3 : VCode := .block 0 (.loop [0, 2, 4, 5] c_ref1_Stream_stored_L2)
def c_ref1_Stream_stored_k4 : VCode := .ops [mv_ 65 0,
  mv_ 66 0,
  po_ 67 (.nilc (.t 66)),
  po_ 68 (.fieldA 1 1 (.t 67)),
  po_ 69 (.load false 1 (.t 68)),
  mv_ 70 2,
  po_ 71 (.bin 3 .mul (ci_ 8) (.t 70)),
  po_ 72 (.bin 3 .add (.t 69) (.t 71)),
  po_ 73 (.nilc (.t 65)),
  po_ 74 (.fieldA 1 1 (.t 73)),
  ⟨none, .s (.store 1 (.t 74) (.t 72)), none⟩] []
def c_ref1_Stream_stored_k5 : VCode := .seq (.seq (.ops [po_ 5 (.mov (ci_ 0))] [0, 2, 4, 5])
 c_ref1_Stream_stored_k3)
 c_ref1_Stream_stored_k4
def c_ref1_Stream_stored_k6 : VCode := .seq (.seq (.ops [mv_ 25 0,
  po_ 26 (.nilc (.t 25)),
  po_ 27 (.fieldA 5 5 (.t 26)),
  po_ 28 (.load false 1 (.t 27)),
  po_ 29 (.bin 3 .neq (.t 28) (ci_ 0)),
  mv_ 30 29,
  ⟨some 31, .p (.mov (.t 2)), some ⟨30, false⟩⟩,
  ⟨some 32, .p (.mov (.t 3)), some ⟨30, false⟩⟩,
  ⟨some 33, .p (.bin 3 .add (.t 31) (.t 32)), some ⟨30, false⟩⟩,
  ⟨some 34, .p (.bin 3 .neq (.t 33) (ci_ 65535)), some ⟨30, false⟩⟩,
  po_ 35 (.pick (.t 30) (.c (.bool true)) (.t 34)),
  mv_ 36 35,
  ⟨some 37, .p (.mov (.t 2)), some ⟨36, false⟩⟩,
  ⟨some 38, .p (.mov (.t 0)), some ⟨36, false⟩⟩,
  ⟨some 39, .p (.nilc (.t 38)), some ⟨36, false⟩⟩,
  ⟨some 40, .p (.fieldA 0 0 (.t 39)), some ⟨36, false⟩⟩,
  ⟨some 41, .p (.load false 1 (.t 40)), some ⟨36, false⟩⟩,
  ⟨some 42, .p (.lenV (.t 41)), some ⟨36, false⟩⟩,
  ⟨some 43, .p (.mov (.t 4)), some ⟨36, false⟩⟩,
  ⟨some 44, .p (.bin 3 .sub (.t 42) (.t 43)), some ⟨36, false⟩⟩,
  ⟨some 45, .p (.bin 3 .gtr (.t 37) (.t 44)), some ⟨36, false⟩⟩,
  po_ 46 (.pick (.t 36) (.c (.bool true)) (.t 45))] [0, 2, 4, 46])
 (.cond (.t 46)
 (.seq (.ops [mv_ 47 0,
   so_ 48 (.call 35 [.t 47, .c (.int .i64 ((10 : Nat) : Int))])] [])
  (.ret))
 (.skip)))
 c_ref1_Stream_stored_k5
def c_ref1_Stream_stored_k7 : VCode := .seq (.ops [mv_ 20 0,
  po_ 21 (.nilc (.t 20)),
  po_ 22 (.fieldA 1 1 (.t 21)),
  po_ 23 (.load false 1 (.t 22)),
  po_ 24 (.bin 3 .quo (.t 23) (ci_ 8)),
  mv_ 4 24] [0, 2, 3, 4])
 c_ref1_Stream_stored_k6
def c_ref1_Stream_stored_k8 : VCode := .seq (.ops [mv_ 18 0,
  so_ 19 (.call 34 [.t 18, .c (.int .i64 ((16 : Nat) : Int))]),
  mv_ 3 19] [0, 2, 3])
 c_ref1_Stream_stored_k7
def c_ref1_Stream_stored_k9 : VCode := .seq (.ops [mv_ 16 0,
  so_ 17 (.call 34 [.t 16, .c (.int .i64 ((16 : Nat) : Int))]),
  mv_ 2 17] [0, 2])
 c_ref1_Stream_stored_k8
def c_ref1_Stream_stored : VCode := .seq (.ops [mv_ 6 0,
  mv_ 7 0,
  po_ 8 (.nilc (.t 7)),
  po_ 9 (.fieldA 1 1 (.t 8)),
  po_ 10 (.load false 1 (.t 9)),
  po_ 11 (.bin 3 .add (.t 10) (ci_ 7)),
  po_ 12 (.bin 3 .quo (.t 11) (ci_ 8)),
  po_ 13 (.bin 3 .mul (.t 12) (ci_ 8)),
  po_ 14 (.nilc (.t 6)),
  po_ 15 (.fieldA 1 1 (.t 14)),
  ⟨none, .s (.store 1 (.t 15) (.t 13)), none⟩] [0])
 c_ref1_Stream_stored_k9
def r_ref1_Stream_stored : List VR := []
theorem t_ref1_Stream_stored : Tryd.f36.body.bind (trC Tryd.prog Tryd.f36.ntmps) = some (er c_ref1_Stream_stored) := by kernel_rfl
theorem w_ref1_Stream_stored : trR Tryd.prog Tryd.f36.results.toList = some r_ref1_Stream_stored := by kernel_rfl
def u_ref1_Stream_stored_k1_e := code_eq c_ref1_Stream_stored_k1.eq_1
def u_ref1_Stream_stored_L2_e := code_eq c_ref1_Stream_stored_L2.eq_1
def u_ref1_Stream_stored_k3_e := code_eq c_ref1_Stream_stored_k3.eq_1
def u_ref1_Stream_stored_k4_e := code_eq c_ref1_Stream_stored_k4.eq_1
def u_ref1_Stream_stored_k5_e := code_eq c_ref1_Stream_stored_k5.eq_1
def u_ref1_Stream_stored_k6_e := code_eq c_ref1_Stream_stored_k6.eq_1
def u_ref1_Stream_stored_k7_e := code_eq c_ref1_Stream_stored_k7.eq_1
def u_ref1_Stream_stored_k8_e := code_eq c_ref1_Stream_stored_k8.eq_1
def u_ref1_Stream_stored_k9_e := code_eq c_ref1_Stream_stored_k9.eq_1
def u_ref1_Stream_stored_e := code_eq c_ref1_Stream_stored.eq_1
theorem u_ref1_Stream_stored_r {K : TV → Prop} {e : Env} {H : List Ob} : res r_ref1_Stream_stored e H K = res [] e H K := by_refl rfl
def u_ref1_Stream_stored := (And.intro (And.intro (And.intro (And.intro @u_ref1_Stream_stored_k1_e @u_ref1_Stream_stored_L2_e) (And.intro @u_ref1_Stream_stored_k3_e @u_ref1_Stream_stored_k4_e)) (And.intro (And.intro @u_ref1_Stream_stored_k5_e @u_ref1_Stream_stored_k6_e) (And.intro @u_ref1_Stream_stored_k7_e @u_ref1_Stream_stored_k8_e))) (And.intro (And.intro @u_ref1_Stream_stored_k9_e @u_ref1_Stream_stored_e) @u_ref1_Stream_stored_r))
def go_ref1_Stream_stored := go_of 75 Tryd.func36 t_ref1_Stream_stored w_ref1_Stream_stored rfl

def c_ref1_fixed_k1 : VCode := .seq (.seq (.ops [mv_ 15 3,
  po_ 16 (.bin 3 .gtr (.t 15) (ci_ 143)),
  mv_ 17 16,
  ⟨some 18, .p (.mov (.t 3)), some ⟨17, true⟩⟩,
  ⟨some 19, .p (.bin 3 .lss (.t 18) (ci_ 256)), some ⟨17, true⟩⟩,
  po_ 20 (.pick (.t 17) (.t 19) (.c (.bool false)))] [0, 1, 2, 3, 4, 20])
 (.cond (.t 20)
 (.ops [po_ 4 (.mov (ci_ 9))] [0, 1, 2, 3, 4])
 (.skip)))
 (.seq (.seq (.ops [mv_ 21 3,
  po_ 22 (.bin 3 .gtr (.t 21) (ci_ 255)),
  mv_ 23 22,
  ⟨some 24, .p (.mov (.t 3)), some ⟨23, true⟩⟩,
  ⟨some 25, .p (.bin 3 .lss (.t 24) (ci_ 280)), some ⟨23, true⟩⟩,
  po_ 26 (.pick (.t 23) (.t 25) (.c (.bool false)))] [0, 1, 2, 3, 4, 26])
 (.cond (.t 26)
 (.ops [po_ 4 (.mov (ci_ 7))] [0, 1, 2, 3, 4])
 (.skip)))
 (.ops [mv_ 27 2,
  mv_ 28 4,
  ⟨some 29, .s (.bslice 1 1 (.val (.int .i64 ((0 : Nat) : Int))) [⟨0, .t 28⟩]), none⟩,
  so_ 30 (.app 1 8 3 (.t 27) (.t 29)),
  mv_ 2 30] [0, 1, 2, 3]))
def c_ref1_fixed_k2 : VCode := .seq (.block 1 (.seq (.ops [po_ 4 (.mov (ci_ 8))] [0, 1, 2, 3, 4])
 c_ref1_fixed_k1))
 (.ops [mv_ 13 3,
  po_ 14 (.bin 3 .add (.t 13) (ci_ 1)),
  mv_ 3 14] [0, 1, 2, 3])
def c_ref1_fixed_L3 : VCode := .seq (.seq (.ops [mv_ 11 3,
  po_ 12 (.bin 3 .lss (.t 11) (ci_ 288))] [0, 1, 2, 3, 12])
 (.cond (.t 12)
 (.skip)
 (.exit 0)))
 c_ref1_fixed_k2
def c_ref1_fixed_k4 : VCode := .block 0 (.own 2 1 (.loop [0, 1, 2, 3] c_ref1_fixed_L3))
def c_ref1_fixed_L5 : VCode := .seq (.seq (.ops [mv_ 31 6,
  po_ 32 (.bin 3 .lss (.t 31) (ci_ 32))] [0, 1, 2, 5, 6, 32])
 (.cond (.t 32)
 (.skip)
 (.exit 2)))
 (.seq (.block 3 (.ops [mv_ 35 5,
  ⟨some 36, .s (.bslice 1 1 (.val (.int .i64 ((0 : Nat) : Int))) [⟨0, .c (.int .i64 ((5 : Nat) : Int))⟩]), none⟩,
  so_ 37 (.app 1 8 3 (.t 35) (.t 36)),
  mv_ 5 37] [0, 1, 2, 5, 6]))
 (.ops [mv_ 33 6,
  po_ 34 (.bin 3 .add (.t 33) (ci_ 1)),
  mv_ 6 34] [0, 1, 2, 5, 6]))
def c_ref1_fixed_k6 : VCode := .frz 5 (.frz 2 (.seq (.ops [mv_ 39 2,
  so_ 40 (.call 54 [.t 39, .c (.bool false), .c (.bool false)]),
  mv_ 38 40,
  po_ 41 (.ext 0 (.t 38)),
  po_ 42 (.ext 1 (.t 38)),
  so_ 7 (.alloc (.agg [.val (.slice none 0 0), .val (.slice none 0 0)])),
  ⟨none, .s (.store 2 (.t 7) (.t 41)), none⟩,
  mv_ 8 42] [0, 1, 5, 7])
 (.seq (.ops [mv_ 44 5,
  so_ 45 (.call 54 [.t 44, .c (.bool false), .c (.bool false)]),
  mv_ 43 45,
  po_ 46 (.ext 0 (.t 43)),
  po_ 47 (.ext 1 (.t 43)),
  so_ 9 (.alloc (.agg [.val (.slice none 0 0), .val (.slice none 0 0)])),
  ⟨none, .s (.store 2 (.t 9) (.t 46)), none⟩,
  mv_ 10 47] [0, 1, 7, 9])
 (.seq (.sdraw 2 [po_ 48 (.load true 2 (.t 7)),
  po_ 49 (.load true 2 (.t 9)),
  ⟨none, .s (.store 2 (.t 0) (.t 48)), none⟩,
  ⟨none, .s (.store 2 (.t 1) (.t 49)), none⟩] [0, 1])
 (.ret)))))
def c_ref1_fixed_k7 : VCode := .seq (.seq (.ops [po_ 6 (.mov (ci_ 0))] [0, 1, 2, 5, 6])
 (.block 2 (.own 5 1 (.loop [0, 1, 2, 5, 6] c_ref1_fixed_L5))))
 c_ref1_fixed_k6
def c_ref1_fixed_k8 : VCode := .seq (.ops [po_ 5 (.mov (.c (.slice none 0 0)))] [0, 1, 2, 5])
 c_ref1_fixed_k7
def c_ref1_fixed_k9 : VCode := .seq (.seq (.ops [po_ 3 (.mov (ci_ 0))] [0, 1, 2, 3])
 c_ref1_fixed_k4)
 c_ref1_fixed_k8
def c_ref1_fixed_k10 : VCode := .seq (.ops [po_ 2 (.mov (.c (.slice none 0 0)))] [0, 1, 2])
 c_ref1_fixed_k9
def c_ref1_fixed : VCode := .seq (.ops [so_ 0 (.alloc (.agg [.val (.slice none 0 0), .val (.slice none 0 0)])),
  so_ 1 (.alloc (.agg [.val (.slice none 0 0), .val (.slice none 0 0)]))] [0, 1])
 c_ref1_fixed_k10
def r_ref1_fixed : List VR := [.cell 0 true 2, .cell 1 true 2]
theorem t_ref1_fixed : Tryd.f37.body.bind (trC Tryd.prog Tryd.f37.ntmps) = some (er c_ref1_fixed) := by kernel_rfl
theorem w_ref1_fixed : trR Tryd.prog Tryd.f37.results.toList = some r_ref1_fixed := by kernel_rfl
def u_ref1_fixed_k1_e := code_eq c_ref1_fixed_k1.eq_1
def u_ref1_fixed_k2_e := code_eq c_ref1_fixed_k2.eq_1
def u_ref1_fixed_L3_e := code_eq c_ref1_fixed_L3.eq_1
def u_ref1_fixed_k4_e := code_eq c_ref1_fixed_k4.eq_1
def u_ref1_fixed_L5_e := code_eq c_ref1_fixed_L5.eq_1
def u_ref1_fixed_k6_e := code_eq c_ref1_fixed_k6.eq_1
def u_ref1_fixed_k7_e := code_eq c_ref1_fixed_k7.eq_1
def u_ref1_fixed_k8_e := code_eq c_ref1_fixed_k8.eq_1
def u_ref1_fixed_k9_e := code_eq c_ref1_fixed_k9.eq_1
def u_ref1_fixed_k10_e := code_eq c_ref1_fixed_k10.eq_1
def u_ref1_fixed_e := code_eq c_ref1_fixed.eq_1
theorem u_ref1_fixed_r {K : TV → Prop} {e : Env} {H : List Ob} : res r_ref1_fixed e H K = res [.cell 0 true 2, .cell 1 true 2] e H K := by_refl rfl
def u_ref1_fixed := (And.intro (And.intro (And.intro (And.intro @u_ref1_fixed_k1_e @u_ref1_fixed_k2_e) (And.intro @u_ref1_fixed_L3_e @u_ref1_fixed_k4_e)) (And.intro (And.intro @u_ref1_fixed_L5_e @u_ref1_fixed_k6_e) (And.intro @u_ref1_fixed_k7_e @u_ref1_fixed_k8_e))) (And.intro (And.intro @u_ref1_fixed_k9_e @u_ref1_fixed_k10_e) (And.intro @u_ref1_fixed_e @u_ref1_fixed_r)))
def go_ref1_fixed := go_of 50 Tryd.func37 t_ref1_fixed w_ref1_fixed rfl

def c_ref1_Stream_symbols_b1 : VCode := .draw 5 [mv_ 108 0,
  mv_ 109 0,
  po_ 110 (.nilc (.t 109)),
  po_ 111 (.fieldA 2 2 (.t 110)),
  po_ 112 (.load false 1 (.t 111)),
  mv_ 113 0,
  po_ 114 (.nilc (.t 113)),
  po_ 115 (.fieldA 2 2 (.t 114)),
  po_ 116 (.load false 1 (.t 115)),
  po_ 117 (.lenV (.t 116)),
  mv_ 118 11,
  po_ 119 (.bin 3 .sub (.t 117) (.t 118)),
  po_ 120 (.idxA 1 (.t 112) (.t 119)),
  po_ 121 (.load false 1 (.t 120)),
  so_ 122 (.call 53 [.t 108, .t 121])] [0, 4, 5, 9, 11, 12]
def c_ref1_Stream_symbols_k2 : VCode := .cond (.t 107)
 c_ref1_Stream_symbols_b1
 (.skip)
def c_ref1_Stream_symbols_k3 : VCode := .seq (.block 3 (.seq (.ops [mv_ 103 0,
  po_ 104 (.nilc (.t 103)),
  po_ 105 (.fieldA 5 5 (.t 104)),
  po_ 106 (.load false 1 (.t 105)),
  po_ 107 (.bin 3 .eql (.t 106) (ci_ 0))] [0, 4, 5, 9, 11, 12, 107])
 c_ref1_Stream_symbols_k2))
 (.ops [mv_ 101 12,
  po_ 102 (.bin 3 .add (.t 101) (ci_ 1)),
  mv_ 12 102] [0, 4, 5, 9, 11, 12])
def c_ref1_Stream_symbols_L4 : VCode := .seq (.seq (.ops [mv_ 98 12,
  mv_ 99 9,
  po_ 100 (.bin 3 .lss (.t 98) (.t 99))] [0, 4, 5, 9, 11, 12, 100])
 (.cond (.t 100)
 (.skip)
 (.exit 2)))
 c_ref1_Stream_symbols_k3
def c_ref1_Stream_symbols_k5 : VCode := .block 2 (.loop [0, 4, 5, 9, 11, 12] c_ref1_Stream_symbols_L4)
def c_ref1_Stream_symbols_k6 : VCode := .seq (.ops [po_ 12 (.mov (ci_ 0))] [0, 4, 5, 9, 11, 12])
 c_ref1_Stream_symbols_k5
def c_ref1_Stream_symbols_k7 : VCode := .seq (.seq (.ops [mv_ 74 0,
  po_ 75 (.nilc (.t 74)),
  po_ 76 (.fieldA 5 5 (.t 75)),
  po_ 77 (.load false 1 (.t 76)),
  po_ 78 (.bin 3 .neq (.t 77) (ci_ 0)),
  mv_ 79 78,
  ⟨some 80, .p (.mov (.t 11)), some ⟨79, false⟩⟩,
  ⟨some 81, .p (.mov (.t 0)), some ⟨79, false⟩⟩,
  ⟨some 82, .p (.nilc (.t 81)), some ⟨79, false⟩⟩,
  ⟨some 83, .p (.fieldA 2 2 (.t 82)), some ⟨79, false⟩⟩,
  ⟨some 84, .p (.load false 1 (.t 83)), some ⟨79, false⟩⟩,
  ⟨some 85, .p (.lenV (.t 84)), some ⟨79, false⟩⟩,
  ⟨some 86, .p (.bin 3 .gtr (.t 80) (.t 85)), some ⟨79, false⟩⟩,
  po_ 87 (.pick (.t 79) (.c (.bool true)) (.t 86)),
  mv_ 88 87,
  ⟨some 89, .p (.mov (.t 11)), some ⟨88, false⟩⟩,
  ⟨some 90, .p (.mov (.t 0)), some ⟨88, false⟩⟩,
  ⟨some 91, .p (.nilc (.t 90)), some ⟨88, false⟩⟩,
  ⟨some 92, .p (.fieldA 4 4 (.t 91)), some ⟨88, false⟩⟩,
  ⟨some 93, .p (.load false 1 (.t 92)), some ⟨88, false⟩⟩,
  ⟨some 94, .p (.bin 3 .gtr (.t 89) (.t 93)), some ⟨88, false⟩⟩,
  po_ 95 (.pick (.t 88) (.c (.bool true)) (.t 94))] [0, 4, 5, 9, 11, 95])
 (.cond (.t 95)
 (.seq (.ops [mv_ 96 0,
   so_ 97 (.call 35 [.t 96, .c (.int .i64 ((10 : Nat) : Int))])] [])
  (.ret))
 (.skip)))
 c_ref1_Stream_symbols_k6
def c_ref1_Stream_symbols_k8 : VCode := .seq (.ops [mv_ 69 7,
  mv_ 70 0,
  mv_ 71 8,
  so_ 72 (.call 34 [.t 70, .t 71]),
  po_ 73 (.bin 3 .add (.t 69) (.t 72)),
  mv_ 11 73] [0, 4, 5, 9, 11])
 c_ref1_Stream_symbols_k7
def c_ref1_Stream_symbols_k9 : VCode := .seq (.ops [mv_ 65 10,
  so_ 66 (.call 56 [.t 65, .c (.bool true)]),
  mv_ 64 66,
  po_ 67 (.ext 0 (.t 64)),
  po_ 68 (.ext 1 (.t 64)),
  mv_ 7 67,
  mv_ 8 68] [0, 4, 5, 7, 8, 9])
 c_ref1_Stream_symbols_k8
def c_ref1_Stream_symbols_k10 : VCode := .seq (.seq (.ops [mv_ 53 0,
  po_ 54 (.nilc (.t 53)),
  po_ 55 (.fieldA 5 5 (.t 54)),
  po_ 56 (.load false 1 (.t 55)),
  po_ 57 (.bin 3 .neq (.t 56) (ci_ 0)),
  mv_ 58 57,
  ⟨some 59, .p (.mov (.t 10)), some ⟨58, false⟩⟩,
  ⟨some 60, .p (.bin 3 .gtr (.t 59) (ci_ 29)), some ⟨58, false⟩⟩,
  po_ 61 (.pick (.t 58) (.c (.bool true)) (.t 60))] [0, 4, 5, 9, 10, 61])
 (.cond (.t 61)
 (.seq (.ops [mv_ 62 0,
   so_ 63 (.call 35 [.t 62, .c (.int .i64 ((10 : Nat) : Int))])] [])
  (.ret))
 (.skip)))
 c_ref1_Stream_symbols_k9
def c_ref1_Stream_symbols_k11 : VCode := .seq (.ops [mv_ 50 0,
  po_ 51 (.load true 2 (.t 5)),
  so_ 52 (.call 55 [.t 50, .t 51]),
  mv_ 10 52] [0, 4, 5, 9, 10])
 c_ref1_Stream_symbols_k10
def c_ref1_Stream_symbols_k12 : VCode := .seq (.ops [mv_ 45 7,
  mv_ 46 0,
  mv_ 47 8,
  so_ 48 (.call 34 [.t 46, .t 47]),
  po_ 49 (.bin 3 .add (.t 45) (.t 48)),
  mv_ 9 49] [0, 4, 5, 9])
 c_ref1_Stream_symbols_k11
def c_ref1_Stream_symbols_k13 : VCode := .seq (.ops [mv_ 41 6,
  so_ 42 (.call 56 [.t 41, .c (.bool false)]),
  mv_ 40 42,
  po_ 43 (.ext 0 (.t 40)),
  po_ 44 (.ext 1 (.t 40)),
  mv_ 7 43,
  mv_ 8 44] [0, 4, 5, 7, 8])
 c_ref1_Stream_symbols_k12
def c_ref1_Stream_symbols_k14 : VCode := .seq (.seq (.ops [mv_ 36 6,
  po_ 37 (.bin 3 .gtr (.t 36) (ci_ 285))] [0, 4, 5, 6, 37])
 (.cond (.t 37)
 (.seq (.ops [mv_ 38 0,
   so_ 39 (.call 35 [.t 38, .c (.int .i64 ((10 : Nat) : Int))])] [])
  (.ret))
 (.skip)))
 c_ref1_Stream_symbols_k13
def c_ref1_Stream_symbols_k15 : VCode := .seq (.seq (.ops [mv_ 30 6,
  po_ 31 (.bin 3 .lss (.t 30) (ci_ 256))] [0, 4, 5, 6, 31])
 (.cond (.t 31)
 (.seq (.ops [mv_ 32 0,
   mv_ 33 6,
   po_ 34 (.conv .u8 (.t 33)),
   so_ 35 (.call 53 [.t 32, .t 34])] [0, 4, 5])
  (.exit 1))
 (.skip)))
 c_ref1_Stream_symbols_k14
def c_ref1_Stream_symbols_k16 : VCode := .seq (.seq (.ops [mv_ 21 0,
  po_ 22 (.nilc (.t 21)),
  po_ 23 (.fieldA 5 5 (.t 22)),
  po_ 24 (.load false 1 (.t 23)),
  po_ 25 (.bin 3 .neq (.t 24) (ci_ 0)),
  mv_ 26 25,
  ⟨some 27, .p (.mov (.t 6)), some ⟨26, false⟩⟩,
  ⟨some 28, .p (.bin 3 .eql (.t 27) (ci_ 256)), some ⟨26, false⟩⟩,
  po_ 29 (.pick (.t 26) (.c (.bool true)) (.t 28))] [0, 4, 5, 6, 29])
 (.cond (.t 29)
 (.ret)
 (.skip)))
 c_ref1_Stream_symbols_k15
def c_ref1_Stream_symbols_k17 : VCode := .block 1 (.seq (.ops [mv_ 18 0,
  po_ 19 (.load true 2 (.t 4)),
  so_ 20 (.call 55 [.t 18, .t 19]),
  mv_ 6 20] [0, 4, 5, 6])
 c_ref1_Stream_symbols_k16)
def c_ref1_Stream_symbols_L18 : VCode := .seq (.seq (.ops [mv_ 13 0,
  po_ 14 (.nilc (.t 13)),
  po_ 15 (.fieldA 5 5 (.t 14)),
  po_ 16 (.load false 1 (.t 15)),
  po_ 17 (.bin 3 .eql (.t 16) (ci_ 0))] [0, 4, 5, 17])
 (.cond (.t 17)
 (.skip)
 (.exit 0)))
 c_ref1_Stream_symbols_k17
def c_ref1_Stream_symbols_k19 : VCode := .block 0 (.loop [0, 4, 5] c_ref1_Stream_symbols_L18)
def c_ref1_Stream_symbols : VCode := .seq (.ops [so_ 4 (.box (.t 1)),
  so_ 5 (.box (.t 2))] [0, 4, 5])
 c_ref1_Stream_symbols_k19
def r_ref1_Stream_symbols : List VR := []
theorem t_ref1_Stream_symbols : Tryd.f38.body.bind (trC Tryd.prog Tryd.f38.ntmps) = some (er c_ref1_Stream_symbols) := by kernel_rfl
theorem w_ref1_Stream_symbols : trR Tryd.prog Tryd.f38.results.toList = some r_ref1_Stream_symbols := by kernel_rfl
def u_ref1_Stream_symbols_b1_e := code_eq c_ref1_Stream_symbols_b1.eq_1
def u_ref1_Stream_symbols_k2_e := code_eq c_ref1_Stream_symbols_k2.eq_1
def u_ref1_Stream_symbols_k3_e := code_eq c_ref1_Stream_symbols_k3.eq_1
def u_ref1_Stream_symbols_L4_e := code_eq c_ref1_Stream_symbols_L4.eq_1
def u_ref1_Stream_symbols_k5_e := code_eq c_ref1_Stream_symbols_k5.eq_1
def u_ref1_Stream_symbols_k6_e := code_eq c_ref1_Stream_symbols_k6.eq_1
def u_ref1_Stream_symbols_k7_e := code_eq c_ref1_Stream_symbols_k7.eq_1
def u_ref1_Stream_symbols_k8_e := code_eq c_ref1_Stream_symbols_k8.eq_1
def u_ref1_Stream_symbols_k9_e := code_eq c_ref1_Stream_symbols_k9.eq_1
def u_ref1_Stream_symbols_k10_e := code_eq c_ref1_Stream_symbols_k10.eq_1
def u_ref1_Stream_symbols_k11_e := code_eq c_ref1_Stream_symbols_k11.eq_1
def u_ref1_Stream_symbols_k12_e := code_eq c_ref1_Stream_symbols_k12.eq_1
def u_ref1_Stream_symbols_k13_e := code_eq c_ref1_Stream_symbols_k13.eq_1
def u_ref1_Stream_symbols_k14_e := code_eq c_ref1_Stream_symbols_k14.eq_1
def u_ref1_Stream_symbols_k15_e := code_eq c_ref1_Stream_symbols_k15.eq_1
def u_ref1_Stream_symbols_k16_e := code_eq c_ref1_Stream_symbols_k16.eq_1
def u_ref1_Stream_symbols_k17_e := code_eq c_ref1_Stream_symbols_k17.eq_1
def u_ref1_Stream_symbols_L18_e := code_eq c_ref1_Stream_symbols_L18.eq_1
def u_ref1_Stream_symbols_k19_e := code_eq c_ref1_Stream_symbols_k19.eq_1
def u_ref1_Stream_symbols_e := code_eq c_ref1_Stream_symbols.eq_1
theorem u_ref1_Stream_symbols_r {K : TV → Prop} {e : Env} {H : List Ob} : res r_ref1_Stream_symbols e H K = res [] e H K := by_refl rfl
def u_ref1_Stream_symbols := (And.intro (And.intro (And.intro (And.intro (And.intro @u_ref1_Stream_symbols_b1_e @u_ref1_Stream_symbols_k2_e) (And.intro @u_ref1_Stream_symbols_k3_e @u_ref1_Stream_symbols_L4_e)) (And.intro (And.intro @u_ref1_Stream_symbols_k5_e @u_ref1_Stream_symbols_k6_e) (And.intro @u_ref1_Stream_symbols_k7_e @u_ref1_Stream_symbols_k8_e))) (And.intro (And.intro (And.intro @u_ref1_Stream_symbols_k9_e @u_ref1_Stream_symbols_k10_e) (And.intro @u_ref1_Stream_symbols_k11_e @u_ref1_Stream_symbols_k12_e)) (And.intro (And.intro @u_ref1_Stream_symbols_k13_e @u_ref1_Stream_symbols_k14_e) (And.intro @u_ref1_Stream_symbols_k15_e @u_ref1_Stream_symbols_k16_e)))) (And.intro (And.intro (And.intro @u_ref1_Stream_symbols_k17_e @u_ref1_Stream_symbols_L18_e) (And.intro @u_ref1_Stream_symbols_k19_e @u_ref1_Stream_symbols_e)) @u_ref1_Stream_symbols_r))
def go_ref1_Stream_symbols := go_of 123 Tryd.func38 t_ref1_Stream_symbols w_ref1_Stream_symbols rfl

def c_ref1_Stream_told_L1 : VCode := .seq (.seq (.ops [mv_ 48 10,
  mv_ 49 7,
  po_ 50 (.bin 3 .lss (.t 48) (.t 49))] [0, 2, 3, 5, 6, 7, 8, 9, 10, 50])
 (.cond (.t 50)
 (.skip)
 (.exit 0)))
 (.seq (.block 1 (.sdraw 5 [mv_ 53 9,
  mv_ 54 8,
  mv_ 55 10,
  po_ 56 (.idxA 1 (.t 54) (.t 55)),
  po_ 57 (.load false 1 (.t 56)),
  mv_ 58 0,
  so_ 59 (.call 34 [.t 58, .c (.int .i64 ((3 : Nat) : Int))]),
  po_ 60 (.idxA 1 (.t 53) (.t 57)),
  ⟨none, .s (.store 1 (.t 60) (.t 59)), none⟩] [0, 2, 3, 5, 6, 7, 8, 9, 10]))
 (.ops [mv_ 51 10,
  po_ 52 (.bin 3 .add (.t 51) (ci_ 1)),
  mv_ 10 52] [0, 2, 3, 5, 6, 7, 8, 9, 10]))
def c_ref1_Stream_told_k2 : VCode := .block 0 (.loop [0, 2, 3, 5, 6, 7, 8, 9, 10] c_ref1_Stream_told_L1)
def c_ref1_Stream_told_b3 : VCode := .seq (.seq (.ops [mv_ 98 13,
  po_ 99 (.lenV (.t 98)),
  po_ 100 (.bin 3 .eql (.t 99) (ci_ 0))] [0, 2, 3, 5, 6, 11, 13, 100])
 (.cond (.t 100)
 (.seq (.ops [po_ 101 (.build [.val (.slice none 0 0), .val (.slice none 0 0)] [1, 1] []),
   po_ 102 (.build [.val (.slice none 0 0), .val (.slice none 0 0)] [1, 1] []),
   ⟨none, .s (.store 2 (.t 2) (.t 101)), none⟩,
   ⟨none, .s (.store 2 (.t 3) (.t 102)), none⟩,
   po_ 4 (.mov (.c (.bool false)))] [2, 3, 4])
  (.ret))
 (.skip)))
 (.seq (.ops [mv_ 103 13,
  mv_ 104 13,
  po_ 105 (.lenV (.t 104)),
  po_ 106 (.bin 3 .sub (.t 105) (ci_ 1)),
  po_ 107 (.idxA 1 (.t 103) (.t 106)),
  po_ 108 (.load false 1 (.t 107)),
  mv_ 15 108] [0, 2, 3, 5, 6, 11, 13, 15])
 (.ops [mv_ 109 0,
  so_ 110 (.call 34 [.t 109, .c (.int .i64 ((2 : Nat) : Int))]),
  po_ 111 (.bin 3 .add (ci_ 3) (.t 110)),
  mv_ 16 111] [0, 2, 3, 5, 6, 11, 13, 15, 16]))
def c_ref1_Stream_told_b4 : VCode := .seq (.ops [mv_ 119 14,
  po_ 120 (.bin 3 .eql (.t 119) (ci_ 18)),
  mv_ 118 120] [0, 2, 3, 5, 6, 11, 13, 15, 16, 118])
 (.cond (.t 118)
 (.seq (.ops [po_ 15 (.mov (ci_ 0))] [0, 2, 3, 5, 6, 11, 13, 15])
  (.ops [mv_ 121 0,
   so_ 122 (.call 34 [.t 121, .c (.int .i64 ((7 : Nat) : Int))]),
   po_ 123 (.bin 3 .add (ci_ 11) (.t 122)),
   mv_ 16 123] [0, 2, 3, 5, 6, 11, 13, 15, 16]))
 (.skip))
def c_ref1_Stream_told_k5 : VCode := .cond (.t 112)
 (.seq (.ops [po_ 15 (.mov (ci_ 0))] [0, 2, 3, 5, 6, 11, 13, 15])
  (.ops [mv_ 115 0,
   so_ 116 (.call 34 [.t 115, .c (.int .i64 ((3 : Nat) : Int))]),
   po_ 117 (.bin 3 .add (ci_ 3) (.t 116)),
   mv_ 16 117] [0, 2, 3, 5, 6, 11, 13, 15, 16]))
 c_ref1_Stream_told_b4
def c_ref1_Stream_told_b6 : VCode := .seq (.ops [mv_ 113 14,
  po_ 114 (.bin 3 .eql (.t 113) (ci_ 17)),
  mv_ 112 114] [0, 2, 3, 5, 6, 11, 13, 14, 15, 16, 112])
 c_ref1_Stream_told_k5
def c_ref1_Stream_told_k7 : VCode := .cond (.t 95)
 c_ref1_Stream_told_b3
 c_ref1_Stream_told_b6
def c_ref1_Stream_told_b8 : VCode := .seq (.ops [mv_ 96 14,
  po_ 97 (.bin 3 .eql (.t 96) (ci_ 16)),
  mv_ 95 97] [0, 2, 3, 5, 6, 11, 13, 14, 15, 16, 95])
 c_ref1_Stream_told_k7
def c_ref1_Stream_told_k9 : VCode := .cond (.t 87)
 (.seq (.ops [po_ 93 (.build [.val (.slice none 0 0), .val (.slice none 0 0)] [1, 1] []),
   po_ 94 (.build [.val (.slice none 0 0), .val (.slice none 0 0)] [1, 1] []),
   ⟨none, .s (.store 2 (.t 2) (.t 93)), none⟩,
   ⟨none, .s (.store 2 (.t 3) (.t 94)), none⟩,
   po_ 4 (.mov (.c (.bool false)))] [2, 3, 4])
  (.ret))
 c_ref1_Stream_told_b8
def c_ref1_Stream_told_L10 : VCode := .seq (.seq (.ops [mv_ 141 17,
  mv_ 142 16,
  po_ 143 (.bin 3 .lss (.t 141) (.t 142))] [0, 2, 3, 5, 6, 11, 13, 15, 16, 17, 143])
 (.cond (.t 143)
 (.skip)
 (.exit 5)))
 (.seq (.block 6 (.ops [mv_ 146 13,
  mv_ 147 15,
  ⟨some 148, .s (.bslice 1 1 (.val (.int .i64 ((0 : Nat) : Int))) [⟨0, .t 147⟩]), none⟩,
  so_ 149 (.app 1 8 3 (.t 146) (.t 148)),
  mv_ 13 149] [0, 2, 3, 5, 6, 11, 13, 15, 16, 17]))
 (.ops [mv_ 144 17,
  po_ 145 (.bin 3 .add (.t 144) (ci_ 1)),
  mv_ 17 145] [0, 2, 3, 5, 6, 11, 13, 15, 16, 17]))
def c_ref1_Stream_told_k11 : VCode := .seq (.seq (.ops [mv_ 124 0,
  po_ 125 (.nilc (.t 124)),
  po_ 126 (.fieldA 5 5 (.t 125)),
  po_ 127 (.load false 1 (.t 126)),
  po_ 128 (.bin 3 .neq (.t 127) (ci_ 0)),
  mv_ 129 128,
  ⟨some 130, .p (.mov (.t 13)), some ⟨129, false⟩⟩,
  ⟨some 131, .p (.lenV (.t 130)), some ⟨129, false⟩⟩,
  ⟨some 132, .p (.mov (.t 16)), some ⟨129, false⟩⟩,
  ⟨some 133, .p (.bin 3 .add (.t 131) (.t 132)), some ⟨129, false⟩⟩,
  ⟨some 134, .p (.mov (.t 5)), some ⟨129, false⟩⟩,
  ⟨some 135, .p (.mov (.t 6)), some ⟨129, false⟩⟩,
  ⟨some 136, .p (.bin 3 .add (.t 134) (.t 135)), some ⟨129, false⟩⟩,
  ⟨some 137, .p (.bin 3 .gtr (.t 133) (.t 136)), some ⟨129, false⟩⟩,
  po_ 138 (.pick (.t 129) (.c (.bool true)) (.t 137))] [0, 2, 3, 5, 6, 11, 13, 15, 16, 138])
 (.cond (.t 138)
 (.seq (.ops [po_ 139 (.build [.val (.slice none 0 0), .val (.slice none 0 0)] [1, 1] []),
   po_ 140 (.build [.val (.slice none 0 0), .val (.slice none 0 0)] [1, 1] []),
   ⟨none, .s (.store 2 (.t 2) (.t 139)), none⟩,
   ⟨none, .s (.store 2 (.t 3) (.t 140)), none⟩,
   po_ 4 (.mov (.c (.bool false)))] [2, 3, 4])
  (.ret))
 (.skip)))
 (.seq (.ops [po_ 17 (.mov (ci_ 0))] [0, 2, 3, 5, 6, 11, 13, 15, 16, 17])
 (.block 5 (.own 13 1 (.loop [0, 2, 3, 5, 6, 11, 13, 15, 16, 17] c_ref1_Stream_told_L10))))
def c_ref1_Stream_told_k12 : VCode := .seq (.block 4 (.seq (.ops [mv_ 88 0,
  po_ 89 (.nilc (.t 88)),
  po_ 90 (.fieldA 5 5 (.t 89)),
  po_ 91 (.load false 1 (.t 90)),
  po_ 92 (.bin 3 .neq (.t 91) (ci_ 0)),
  mv_ 87 92] [0, 2, 3, 5, 6, 11, 13, 14, 15, 16, 87])
 c_ref1_Stream_told_k9))
 c_ref1_Stream_told_k11
def c_ref1_Stream_told_k13 : VCode := .seq (.ops [po_ 16 (.mov (ci_ 1))] [0, 2, 3, 5, 6, 11, 13, 14, 15, 16])
 c_ref1_Stream_told_k12
def c_ref1_Stream_told_k14 : VCode := .seq (.ops [mv_ 86 14,
  mv_ 15 86] [0, 2, 3, 5, 6, 11, 13, 14, 15])
 c_ref1_Stream_told_k13
def c_ref1_Stream_told_k15 : VCode := .block 3 (.seq (.ops [mv_ 83 0,
  po_ 84 (.load true 2 (.t 11)),
  so_ 85 (.call 55 [.t 83, .t 84]),
  mv_ 14 85] [0, 2, 3, 5, 6, 11, 13, 14])
 c_ref1_Stream_told_k14)
def c_ref1_Stream_told_L16 : VCode := .seq (.seq (.ops [mv_ 77 13,
  po_ 78 (.lenV (.t 77)),
  mv_ 79 5,
  mv_ 80 6,
  po_ 81 (.bin 3 .add (.t 79) (.t 80)),
  po_ 82 (.bin 3 .lss (.t 78) (.t 81))] [0, 2, 3, 5, 6, 11, 13, 82])
 (.cond (.t 82)
 (.skip)
 (.exit 2)))
 c_ref1_Stream_told_k15
def c_ref1_Stream_told_k17 : VCode := .seq (.sdraw 12 [po_ 164 (.load true 2 (.t 18)),
  po_ 165 (.load true 2 (.t 20)),
  mv_ 166 19,
  mv_ 167 166,
  ⟨some 168, .p (.mov (.t 21)), some ⟨167, true⟩⟩,
  po_ 169 (.pick (.t 167) (.t 168) (.c (.bool false))),
  mv_ 170 169,
  ⟨some 171, .p (.mov (.t 13)), some ⟨170, true⟩⟩,
  ⟨some 172, .p (.idxA 1 (.t 171) (ci_ 256)), some ⟨170, true⟩⟩,
  ⟨some 173, .p (.load false 1 (.t 172)), some ⟨170, true⟩⟩,
  ⟨some 174, .p (.bin 3 .gtr (.t 173) (ci_ 0)), some ⟨170, true⟩⟩,
  po_ 175 (.pick (.t 170) (.t 174) (.c (.bool false))),
  ⟨none, .s (.store 2 (.t 2) (.t 164)), none⟩,
  ⟨none, .s (.store 2 (.t 3) (.t 165)), none⟩,
  mv_ 4 175] [2, 3, 4])
 (.ret)
def c_ref1_Stream_told_k18 : VCode := .seq (.ops [mv_ 158 13,
  mv_ 159 5,
  po_ 160 (.slV 1 (.t 158) (some (.t 159)) none),
  so_ 161 (.call 54 [.t 160, .c (.bool true), .c (.bool true)]),
  mv_ 157 161,
  po_ 162 (.ext 0 (.t 157)),
  po_ 163 (.ext 1 (.t 157)),
  so_ 20 (.alloc (.agg [.val (.slice none 0 0), .val (.slice none 0 0)])),
  ⟨none, .s (.store 2 (.t 20) (.t 162)), none⟩,
  mv_ 21 163] [2, 3, 13, 18, 19, 20, 21])
 c_ref1_Stream_told_k17
def c_ref1_Stream_told_k19 : VCode := .frz 13 (.seq (.ops [mv_ 151 13,
  mv_ 152 5,
  po_ 153 (.slV 1 (.t 151) none (some (.t 152))),
  so_ 154 (.call 54 [.t 153, .c (.bool true), .c (.bool false)]),
  mv_ 150 154,
  po_ 155 (.ext 0 (.t 150)),
  po_ 156 (.ext 1 (.t 150)),
  so_ 18 (.alloc (.agg [.val (.slice none 0 0), .val (.slice none 0 0)])),
  ⟨none, .s (.store 2 (.t 18) (.t 155)), none⟩,
  mv_ 19 156] [2, 3, 5, 13, 18, 19])
 c_ref1_Stream_told_k18)
def c_ref1_Stream_told_k20 : VCode := .seq (.block 2 (.own 13 1 (.loop [0, 2, 3, 5, 6, 11, 13] c_ref1_Stream_told_L16)))
 c_ref1_Stream_told_k19
def c_ref1_Stream_told_k21 : VCode := .seq (.ops [po_ 13 (.mov (.c (.slice none 0 0)))] [0, 2, 3, 5, 6, 11, 13])
 c_ref1_Stream_told_k20
def c_ref1_Stream_told_k22 : VCode := .seq (.seq (.ops [mv_ 66 0,
  po_ 67 (.nilc (.t 66)),
  po_ 68 (.fieldA 5 5 (.t 67)),
  po_ 69 (.load false 1 (.t 68)),
  po_ 70 (.bin 3 .neq (.t 69) (ci_ 0)),
  mv_ 71 70,
  ⟨some 72, .p (.mov (.t 12)), some ⟨71, false⟩⟩,
  ⟨some 73, .p (.un .not (.t 72)), some ⟨71, false⟩⟩,
  po_ 74 (.pick (.t 71) (.c (.bool true)) (.t 73))] [0, 2, 3, 5, 6, 11, 74])
 (.cond (.t 74)
 (.seq (.ops [po_ 75 (.build [.val (.slice none 0 0), .val (.slice none 0 0)] [1, 1] []),
   po_ 76 (.build [.val (.slice none 0 0), .val (.slice none 0 0)] [1, 1] []),
   ⟨none, .s (.store 2 (.t 2) (.t 75)), none⟩,
   ⟨none, .s (.store 2 (.t 3) (.t 76)), none⟩,
   po_ 4 (.mov (.c (.bool false)))] [2, 3, 4])
  (.ret))
 (.skip)))
 c_ref1_Stream_told_k21
def c_ref1_Stream_told_k23 : VCode := .frz 9 (.seq (.ops [mv_ 62 9,
  so_ 63 (.call 54 [.t 62, .c (.bool false), .c (.bool false)]),
  mv_ 61 63,
  po_ 64 (.ext 0 (.t 61)),
  po_ 65 (.ext 1 (.t 61)),
  so_ 11 (.alloc (.agg [.val (.slice none 0 0), .val (.slice none 0 0)])),
  ⟨none, .s (.store 2 (.t 11) (.t 64)), none⟩,
  mv_ 12 65] [0, 2, 3, 5, 6, 11, 12])
 c_ref1_Stream_told_k22)
def c_ref1_Stream_told_k24 : VCode := .seq (.seq (.ops [po_ 10 (.mov (ci_ 0))] [0, 2, 3, 5, 6, 7, 8, 9, 10])
 c_ref1_Stream_told_k2)
 c_ref1_Stream_told_k23
def c_ref1_Stream_told_k25 : VCode := .seq (.ops [so_ 47 (.mks 1 8 (.val (.int .i64 ((0 : Nat) : Int))) (ci_ 19) (ci_ 19)),
  mv_ 9 47] [0, 2, 3, 5, 6, 7, 8, 9])
 c_ref1_Stream_told_k24
def c_ref1_Stream_told_k26 : VCode := .seq (.ops [⟨some 46, .s (.bslice 1 19 (.val (.int .i64 ((0 : Nat) : Int))) [⟨0, .c (.int .i64 ((16 : Nat) : Int))⟩, ⟨1, .c (.int .i64 ((17 : Nat) : Int))⟩, ⟨2, .c (.int .i64 ((18 : Nat) : Int))⟩, ⟨3, .c (.int .i64 ((0 : Nat) : Int))⟩, ⟨4, .c (.int .i64 ((8 : Nat) : Int))⟩, ⟨5, .c (.int .i64 ((7 : Nat) : Int))⟩, ⟨6, .c (.int .i64 ((9 : Nat) : Int))⟩, ⟨7, .c (.int .i64 ((6 : Nat) : Int))⟩, ⟨8, .c (.int .i64 ((10 : Nat) : Int))⟩, ⟨9, .c (.int .i64 ((5 : Nat) : Int))⟩, ⟨10, .c (.int .i64 ((11 : Nat) : Int))⟩, ⟨11, .c (.int .i64 ((4 : Nat) : Int))⟩, ⟨12, .c (.int .i64 ((12 : Nat) : Int))⟩, ⟨13, .c (.int .i64 ((3 : Nat) : Int))⟩, ⟨14, .c (.int .i64 ((13 : Nat) : Int))⟩, ⟨15, .c (.int .i64 ((2 : Nat) : Int))⟩, ⟨16, .c (.int .i64 ((14 : Nat) : Int))⟩, ⟨17, .c (.int .i64 ((1 : Nat) : Int))⟩, ⟨18, .c (.int .i64 ((15 : Nat) : Int))⟩]), none⟩,
  mv_ 8 46] [0, 2, 3, 5, 6, 7, 8])
 c_ref1_Stream_told_k25
def c_ref1_Stream_told_k27 : VCode := .seq (.seq (.ops [mv_ 31 0,
  po_ 32 (.nilc (.t 31)),
  po_ 33 (.fieldA 5 5 (.t 32)),
  po_ 34 (.load false 1 (.t 33)),
  po_ 35 (.bin 3 .neq (.t 34) (ci_ 0)),
  mv_ 36 35,
  ⟨some 37, .p (.mov (.t 5)), some ⟨36, false⟩⟩,
  ⟨some 38, .p (.bin 3 .gtr (.t 37) (ci_ 286)), some ⟨36, false⟩⟩,
  po_ 39 (.pick (.t 36) (.c (.bool true)) (.t 38)),
  mv_ 40 39,
  ⟨some 41, .p (.mov (.t 6)), some ⟨40, false⟩⟩,
  ⟨some 42, .p (.bin 3 .gtr (.t 41) (ci_ 30)), some ⟨40, false⟩⟩,
  po_ 43 (.pick (.t 40) (.c (.bool true)) (.t 42))] [0, 2, 3, 5, 6, 7, 43])
 (.cond (.t 43)
 (.seq (.ops [po_ 44 (.build [.val (.slice none 0 0), .val (.slice none 0 0)] [1, 1] []),
   po_ 45 (.build [.val (.slice none 0 0), .val (.slice none 0 0)] [1, 1] []),
   ⟨none, .s (.store 2 (.t 2) (.t 44)), none⟩,
   ⟨none, .s (.store 2 (.t 3) (.t 45)), none⟩,
   po_ 4 (.mov (.c (.bool false)))] [2, 3, 4])
  (.ret))
 (.skip)))
 c_ref1_Stream_told_k26
def c_ref1_Stream_told_k28 : VCode := .seq (.ops [mv_ 28 0,
  so_ 29 (.call 34 [.t 28, .c (.int .i64 ((4 : Nat) : Int))]),
  po_ 30 (.bin 3 .add (.t 29) (ci_ 4)),
  mv_ 7 30] [0, 2, 3, 5, 6, 7])
 c_ref1_Stream_told_k27
def c_ref1_Stream_told_k29 : VCode := .seq (.ops [mv_ 25 0,
  so_ 26 (.call 34 [.t 25, .c (.int .i64 ((5 : Nat) : Int))]),
  po_ 27 (.bin 3 .add (.t 26) (ci_ 1)),
  mv_ 6 27] [0, 2, 3, 5, 6])
 c_ref1_Stream_told_k28
def c_ref1_Stream_told_k30 : VCode := .seq (.ops [mv_ 22 0,
  so_ 23 (.call 34 [.t 22, .c (.int .i64 ((5 : Nat) : Int))]),
  po_ 24 (.bin 3 .add (.t 23) (ci_ 257)),
  mv_ 5 24] [0, 2, 3, 5])
 c_ref1_Stream_told_k29
def c_ref1_Stream_told : VCode := .seq (.ops [so_ 2 (.alloc (.agg [.val (.slice none 0 0), .val (.slice none 0 0)])),
  so_ 3 (.alloc (.agg [.val (.slice none 0 0), .val (.slice none 0 0)])),
  po_ 4 (.mov (.c (.bool false)))] [0, 2, 3])
 c_ref1_Stream_told_k30
def r_ref1_Stream_told : List VR := [.cell 2 true 2, .cell 3 true 2, .tmp 4]
theorem t_ref1_Stream_told : Tryd.f39.body.bind (trC Tryd.prog Tryd.f39.ntmps) = some (er c_ref1_Stream_told) := by kernel_rfl
theorem w_ref1_Stream_told : trR Tryd.prog Tryd.f39.results.toList = some r_ref1_Stream_told := by kernel_rfl
def u_ref1_Stream_told_L1_e := code_eq c_ref1_Stream_told_L1.eq_1
def u_ref1_Stream_told_k2_e := code_eq c_ref1_Stream_told_k2.eq_1
def u_ref1_Stream_told_b3_e := code_eq c_ref1_Stream_told_b3.eq_1
def u_ref1_Stream_told_b4_e := code_eq c_ref1_Stream_told_b4.eq_1
def u_ref1_Stream_told_k5_e := code_eq c_ref1_Stream_told_k5.eq_1
def u_ref1_Stream_told_b6_e := code_eq c_ref1_Stream_told_b6.eq_1
def u_ref1_Stream_told_k7_e := code_eq c_ref1_Stream_told_k7.eq_1
def u_ref1_Stream_told_b8_e := code_eq c_ref1_Stream_told_b8.eq_1
def u_ref1_Stream_told_k9_e := code_eq c_ref1_Stream_told_k9.eq_1
def u_ref1_Stream_told_L10_e := code_eq c_ref1_Stream_told_L10.eq_1
def u_ref1_Stream_told_k11_e := code_eq c_ref1_Stream_told_k11.eq_1
def u_ref1_Stream_told_k12_e := code_eq c_ref1_Stream_told_k12.eq_1
def u_ref1_Stream_told_k13_e := code_eq c_ref1_Stream_told_k13.eq_1
def u_ref1_Stream_told_k14_e := code_eq c_ref1_Stream_told_k14.eq_1
def u_ref1_Stream_told_k15_e := code_eq c_ref1_Stream_told_k15.eq_1
def u_ref1_Stream_told_L16_e := code_eq c_ref1_Stream_told_L16.eq_1
def u_ref1_Stream_told_k17_e := code_eq c_ref1_Stream_told_k17.eq_1
def u_ref1_Stream_told_k18_e := code_eq c_ref1_Stream_told_k18.eq_1
def u_ref1_Stream_told_k19_e := code_eq c_ref1_Stream_told_k19.eq_1
def u_ref1_Stream_told_k20_e := code_eq c_ref1_Stream_told_k20.eq_1
def u_ref1_Stream_told_k21_e := code_eq c_ref1_Stream_told_k21.eq_1
def u_ref1_Stream_told_k22_e := code_eq c_ref1_Stream_told_k22.eq_1
def u_ref1_Stream_told_k23_e := code_eq c_ref1_Stream_told_k23.eq_1
def u_ref1_Stream_told_k24_e := code_eq c_ref1_Stream_told_k24.eq_1
def u_ref1_Stream_told_k25_e := code_eq c_ref1_Stream_told_k25.eq_1
def u_ref1_Stream_told_k26_e := code_eq c_ref1_Stream_told_k26.eq_1
def u_ref1_Stream_told_k27_e := code_eq c_ref1_Stream_told_k27.eq_1
def u_ref1_Stream_told_k28_e := code_eq c_ref1_Stream_told_k28.eq_1
def u_ref1_Stream_told_k29_e := code_eq c_ref1_Stream_told_k29.eq_1
def u_ref1_Stream_told_k30_e := code_eq c_ref1_Stream_told_k30.eq_1
def u_ref1_Stream_told_e := code_eq c_ref1_Stream_told.eq_1
theorem u_ref1_Stream_told_r {K : TV → Prop} {e : Env} {H : List Ob} : res r_ref1_Stream_told e H K = res [.cell 2 true 2, .cell 3 true 2, .tmp 4] e H K := by_refl rfl
def u_ref1_Stream_told := (And.intro (And.intro (And.intro (And.intro (And.intro @u_ref1_Stream_told_L1_e @u_ref1_Stream_told_k2_e) (And.intro @u_ref1_Stream_told_b3_e @u_ref1_Stream_told_b4_e)) (And.intro (And.intro @u_ref1_Stream_told_k5_e @u_ref1_Stream_told_b6_e) (And.intro @u_ref1_Stream_told_k7_e @u_ref1_Stream_told_b8_e))) (And.intro (And.intro (And.intro @u_ref1_Stream_told_k9_e @u_ref1_Stream_told_L10_e) (And.intro @u_ref1_Stream_told_k11_e @u_ref1_Stream_told_k12_e)) (And.intro (And.intro @u_ref1_Stream_told_k13_e @u_ref1_Stream_told_k14_e) (And.intro @u_ref1_Stream_told_k15_e @u_ref1_Stream_told_L16_e)))) (And.intro (And.intro (And.intro (And.intro @u_ref1_Stream_told_k17_e @u_ref1_Stream_told_k18_e) (And.intro @u_ref1_Stream_told_k19_e @u_ref1_Stream_told_k20_e)) (And.intro (And.intro @u_ref1_Stream_told_k21_e @u_ref1_Stream_told_k22_e) (And.intro @u_ref1_Stream_told_k23_e @u_ref1_Stream_told_k24_e))) (And.intro (And.intro (And.intro @u_ref1_Stream_told_k25_e @u_ref1_Stream_told_k26_e) (And.intro @u_ref1_Stream_told_k27_e @u_ref1_Stream_told_k28_e)) (And.intro (And.intro @u_ref1_Stream_told_k29_e @u_ref1_Stream_told_k30_e) (And.intro @u_ref1_Stream_told_e @u_ref1_Stream_told_r)))))
def go_ref1_Stream_told := go_of 176 Tryd.func39 t_ref1_Stream_told w_ref1_Stream_told rfl

def c_ref1_Stream_put_k1 : VCode := .seq (.seq (.draw 5 [mv_ 9 0,
  po_ 10 (.nilc (.t 9)),
  po_ 11 (.fieldA 2 2 (.t 10)),
  po_ 12 (.load false 1 (.t 11)),
  po_ 13 (.lenV (.t 12)),
  mv_ 14 0,
  po_ 15 (.nilc (.t 14)),
  po_ 16 (.fieldA 3 3 (.t 15)),
  po_ 17 (.load false 1 (.t 16)),
  po_ 18 (.bin 3 .geq (.t 13) (.t 17))] [0, 1, 18])
 (.cond (.t 18)
 (.seq (.ops [mv_ 19 0,
   po_ 20 (.nilc (.t 19)),
   po_ 21 (.fieldA 5 5 (.t 20)),
   ⟨none, .s (.store 1 (.t 21) (ci_ 11)), none⟩] [])
  (.ret))
 (.skip)))
 (.ops [mv_ 22 0,
  mv_ 23 0,
  po_ 24 (.nilc (.t 23)),
  po_ 25 (.fieldA 2 2 (.t 24)),
  po_ 26 (.load false 1 (.t 25)),
  mv_ 27 1,
  ⟨some 28, .s (.bslice 1 1 (.val (.int .u8 ((0 : Nat) : Int))) [⟨0, .t 27⟩]), none⟩,
  so_ 29 (.app 1 1 5 (.t 26) (.t 28)),
  po_ 30 (.nilc (.t 22)),
  po_ 31 (.fieldA 2 2 (.t 30)),
  ⟨none, .s (.store 1 (.t 31) (.t 29)), none⟩] [])
def c_ref1_Stream_put : VCode := .seq (.seq (.ops [mv_ 4 0,
  po_ 5 (.nilc (.t 4)),
  po_ 6 (.fieldA 5 5 (.t 5)),
  po_ 7 (.load false 1 (.t 6)),
  po_ 8 (.bin 3 .neq (.t 7) (ci_ 0))] [0, 1, 8])
 (.cond (.t 8)
 (.ret)
 (.skip)))
 c_ref1_Stream_put_k1
def r_ref1_Stream_put : List VR := []
theorem t_ref1_Stream_put : Tryd.f53.body.bind (trC Tryd.prog Tryd.f53.ntmps) = some (er c_ref1_Stream_put) := by kernel_rfl
theorem w_ref1_Stream_put : trR Tryd.prog Tryd.f53.results.toList = some r_ref1_Stream_put := by kernel_rfl
def u_ref1_Stream_put_k1_e := code_eq c_ref1_Stream_put_k1.eq_1
def u_ref1_Stream_put_e := code_eq c_ref1_Stream_put.eq_1
theorem u_ref1_Stream_put_r {K : TV → Prop} {e : Env} {H : List Ob} : res r_ref1_Stream_put e H K = res [] e H K := by_refl rfl
def u_ref1_Stream_put := (And.intro (And.intro @u_ref1_Stream_put_k1_e @u_ref1_Stream_put_e) @u_ref1_Stream_put_r)
def go_ref1_Stream_put := go_of 32 Tryd.func53 t_ref1_Stream_put w_ref1_Stream_put rfl

def c_ref1_code_L1 : VCode := .seq (.seq (.ops [mv_ 18 12,
  mv_ 19 0,
  po_ 20 (.lenV (.t 19)),
  po_ 21 (.bin 3 .lss (.t 18) (.t 20))] [0, 1, 2, 6, 8, 9, 10, 11, 12, 21])
 (.cond (.t 21)
 (.skip)
 (.exit 0)))
 (.seq (.block 1 (.ops [po_ 24 (.fieldA 1 1 (.t 8)),
  po_ 25 (.load false 1 (.t 24)),
  ⟨some 26, .s (.bslice 1 1 (.val (.int .i64 ((0 : Nat) : Int))) [⟨0, .c (.int .i64 ((0 : Nat) : Int))⟩]), none⟩,
  so_ 27 (.app 1 8 3 (.t 25) (.t 26)),
  po_ 28 (.fieldA 1 1 (.t 8)),
  ⟨none, .s (.store 1 (.t 28) (.t 27)), none⟩] [0, 1, 2, 6, 8, 9, 10, 11, 12]))
 (.ops [mv_ 22 12,
  po_ 23 (.bin 3 .add (.t 22) (ci_ 1)),
  mv_ 12 23] [0, 1, 2, 6, 8, 9, 10, 11, 12]))
def c_ref1_code_k2 : VCode := .block 0 (.ownB 8 [(1, 1)] 1 (.loop [0, 1, 2, 6, 8, 9, 10, 11, 12] c_ref1_code_L1))
def c_ref1_code_k3 : VCode := .seq (.ops [mv_ 52 9,
  po_ 53 (.bin 3 .add (.t 52) (ci_ 1)),
  mv_ 9 53] [0, 1, 2, 6, 8, 9, 10, 13, 14, 15])
 (.seq (.ops [mv_ 54 10,
  po_ 55 (.bin 3 .add (.t 54) (ci_ 1)),
  mv_ 10 55] [0, 1, 2, 6, 8, 9, 10, 13, 14, 15])
 (.seq (.ops [mv_ 56 14,
  mv_ 11 56] [0, 1, 2, 6, 8, 9, 10, 11, 13, 14, 15])
 (.ops [mv_ 57 13,
  mv_ 58 14,
  po_ 59 (.bin 3 .sub (ci_ 15) (.t 58)),
  po_ 60 (.bin 3 .shl (ci_ 1) (.t 59)),
  po_ 61 (.bin 3 .add (.t 57) (.t 60)),
  mv_ 13 61] [0, 1, 2, 6, 8, 9, 10, 11, 13, 14, 15])))
def c_ref1_code_b4 : VCode := .seq (.ops [po_ 47 (.fieldA 1 1 (.t 8)),
  po_ 48 (.load false 1 (.t 47)),
  mv_ 49 15,
  mv_ 50 9,
  po_ 51 (.idxA 1 (.t 48) (.t 49)),
  ⟨none, .s (.store 1 (.t 51) (.t 50)), none⟩] [0, 1, 2, 6, 8, 9, 10, 13, 14, 15])
 c_ref1_code_k3
def c_ref1_code_k5 : VCode := .cond (.t 46)
 c_ref1_code_b4
 (.skip)
def c_ref1_code_k6 : VCode := .seq (.block 5 (.seq (.ops [mv_ 41 0,
  mv_ 42 15,
  po_ 43 (.idxA 1 (.t 41) (.t 42)),
  po_ 44 (.load false 1 (.t 43)),
  mv_ 45 14,
  po_ 46 (.bin 3 .eql (.t 44) (.t 45))] [0, 1, 2, 6, 8, 9, 10, 11, 13, 14, 15, 46])
 c_ref1_code_k5))
 (.ops [mv_ 39 15,
  po_ 40 (.bin 3 .add (.t 39) (ci_ 1)),
  mv_ 15 40] [0, 1, 2, 6, 8, 9, 10, 11, 13, 14, 15])
def c_ref1_code_L7 : VCode := .seq (.seq (.ops [mv_ 35 15,
  mv_ 36 0,
  po_ 37 (.lenV (.t 36)),
  po_ 38 (.bin 3 .lss (.t 35) (.t 37))] [0, 1, 2, 6, 8, 9, 10, 11, 13, 14, 15, 38])
 (.cond (.t 38)
 (.skip)
 (.exit 4)))
 c_ref1_code_k6
def c_ref1_code_k8 : VCode := .block 4 (.loop [0, 1, 2, 6, 8, 9, 10, 11, 13, 14, 15] c_ref1_code_L7)
def c_ref1_code_k9 : VCode := .seq (.ops [po_ 15 (.mov (ci_ 0))] [0, 1, 2, 6, 8, 9, 10, 11, 13, 14, 15])
 c_ref1_code_k8
def c_ref1_code_k10 : VCode := .ops [mv_ 31 14,
  po_ 32 (.bin 3 .add (.t 31) (ci_ 1)),
  mv_ 14 32] [0, 1, 2, 6, 8, 9, 10, 11, 13, 14]
def c_ref1_code_k11 : VCode := .seq (.block 3 (.seq (.ops [mv_ 33 9,
  po_ 34 (.bin 3 .mul (.t 33) (ci_ 2)),
  mv_ 9 34] [0, 1, 2, 6, 8, 9, 10, 11, 13, 14])
 c_ref1_code_k9))
 c_ref1_code_k10
def c_ref1_code_L12 : VCode := .seq (.seq (.ops [mv_ 29 14,
  po_ 30 (.bin 3 .leq (.t 29) (ci_ 15))] [0, 1, 2, 6, 8, 9, 10, 11, 13, 14, 30])
 (.cond (.t 30)
 (.skip)
 (.exit 2)))
 c_ref1_code_k11
def c_ref1_code_k13 : VCode := .block 2 (.loop [0, 1, 2, 6, 8, 9, 10, 11, 13, 14] c_ref1_code_L12)
def c_ref1_code_k14 : VCode := .seq (.ops [po_ 65 (.load true 2 (.t 8)),
  mv_ 66 1,
  mv_ 67 66,
  ⟨some 68, .p (.mov (.t 10)), some ⟨67, true⟩⟩,
  ⟨some 69, .p (.bin 3 .eql (.t 68) (ci_ 1)), some ⟨67, true⟩⟩,
  po_ 70 (.pick (.t 67) (.t 69) (.c (.bool false))),
  mv_ 71 70,
  ⟨some 72, .p (.mov (.t 11)), some ⟨71, true⟩⟩,
  ⟨some 73, .p (.bin 3 .eql (.t 72) (ci_ 1)), some ⟨71, true⟩⟩,
  po_ 74 (.pick (.t 71) (.t 73) (.c (.bool false))),
  mv_ 75 74,
  ⟨some 76, .p (.mov (.t 2)), some ⟨75, false⟩⟩,
  ⟨some 77, .p (.mov (.t 76)), some ⟨75, false⟩⟩,
  ⟨some 78, .p (.mov (.t 10)), some ⟨77, true⟩⟩,
  ⟨some 79, .p (.bin 3 .eql (.t 78) (ci_ 0)), some ⟨77, true⟩⟩,
  ⟨some 80, .p (.pick (.t 77) (.t 79) (.c (.bool false))), some ⟨75, false⟩⟩,
  po_ 81 (.pick (.t 75) (.c (.bool true)) (.t 80)),
  ⟨none, .s (.store 2 (.t 6) (.t 65)), none⟩,
  mv_ 7 81] [6, 7])
 (.ret)
def c_ref1_code_k15 : VCode := .seq (.seq (.ops [mv_ 62 13,
  po_ 63 (.bin 3 .eql (.t 62) (ci_ 32768))] [1, 2, 6, 8, 10, 11, 63])
 (.cond (.t 63)
 (.seq (.ops [po_ 64 (.load true 2 (.t 8)),
   ⟨none, .s (.store 2 (.t 6) (.t 64)), none⟩,
   po_ 7 (.mov (.c (.bool true)))] [6, 7])
  (.ret))
 (.skip)))
 c_ref1_code_k14
def c_ref1_code_k16 : VCode := .seq (.seq (.ops [po_ 14 (.mov (ci_ 1))] [0, 1, 2, 6, 8, 9, 10, 11, 13, 14])
 c_ref1_code_k13)
 c_ref1_code_k15
def c_ref1_code_k17 : VCode := .seq (.ops [po_ 13 (.mov (ci_ 0))] [0, 1, 2, 6, 8, 9, 10, 11, 13])
 c_ref1_code_k16
def c_ref1_code_k18 : VCode := .seq (.seq (.ops [po_ 12 (.mov (ci_ 0))] [0, 1, 2, 6, 8, 9, 10, 11, 12])
 c_ref1_code_k2)
 c_ref1_code_k17
def c_ref1_code_k19 : VCode := .seq (.ops [po_ 11 (.mov (ci_ 0))] [0, 1, 2, 6, 8, 9, 10, 11])
 c_ref1_code_k18
def c_ref1_code_k20 : VCode := .seq (.ops [po_ 10 (.mov (ci_ 0))] [0, 1, 2, 6, 8, 9, 10])
 c_ref1_code_k19
def c_ref1_code_k21 : VCode := .seq (.ops [po_ 9 (.mov (ci_ 0))] [0, 1, 2, 6, 8, 9])
 c_ref1_code_k20
def c_ref1_code_k22 : VCode := .seq (.ops [mv_ 16 0,
  ⟨some 17, .p (.build [.val (.slice none 0 0), .val (.slice none 0 0)] [1, 1] [⟨0, .t 16⟩]), none⟩,
  so_ 8 (.alloc (.agg [.val (.slice none 0 0), .val (.slice none 0 0)])),
  ⟨none, .s (.store 2 (.t 8) (.t 17)), none⟩] [0, 1, 2, 6, 8])
 c_ref1_code_k21
def c_ref1_code : VCode := .seq (.ops [so_ 6 (.alloc (.agg [.val (.slice none 0 0), .val (.slice none 0 0)])),
  po_ 7 (.mov (.c (.bool false)))] [0, 1, 2, 6])
 c_ref1_code_k22
def r_ref1_code : List VR := [.cell 6 true 2, .tmp 7]
theorem t_ref1_code : Tryd.f54.body.bind (trC Tryd.prog Tryd.f54.ntmps) = some (er c_ref1_code) := by kernel_rfl
theorem w_ref1_code : trR Tryd.prog Tryd.f54.results.toList = some r_ref1_code := by kernel_rfl
def u_ref1_code_L1_e := code_eq c_ref1_code_L1.eq_1
def u_ref1_code_k2_e := code_eq c_ref1_code_k2.eq_1
def u_ref1_code_k3_e := code_eq c_ref1_code_k3.eq_1
def u_ref1_code_b4_e := code_eq c_ref1_code_b4.eq_1
def u_ref1_code_k5_e := code_eq c_ref1_code_k5.eq_1
def u_ref1_code_k6_e := code_eq c_ref1_code_k6.eq_1
def u_ref1_code_L7_e := code_eq c_ref1_code_L7.eq_1
def u_ref1_code_k8_e := code_eq c_ref1_code_k8.eq_1
def u_ref1_code_k9_e := code_eq c_ref1_code_k9.eq_1
def u_ref1_code_k10_e := code_eq c_ref1_code_k10.eq_1
def u_ref1_code_k11_e := code_eq c_ref1_code_k11.eq_1
def u_ref1_code_L12_e := code_eq c_ref1_code_L12.eq_1
def u_ref1_code_k13_e := code_eq c_ref1_code_k13.eq_1
def u_ref1_code_k14_e := code_eq c_ref1_code_k14.eq_1
def u_ref1_code_k15_e := code_eq c_ref1_code_k15.eq_1
def u_ref1_code_k16_e := code_eq c_ref1_code_k16.eq_1
def u_ref1_code_k17_e := code_eq c_ref1_code_k17.eq_1
def u_ref1_code_k18_e := code_eq c_ref1_code_k18.eq_1
def u_ref1_code_k19_e := code_eq c_ref1_code_k19.eq_1
def u_ref1_code_k20_e := code_eq c_ref1_code_k20.eq_1
def u_ref1_code_k21_e := code_eq c_ref1_code_k21.eq_1
def u_ref1_code_k22_e := code_eq c_ref1_code_k22.eq_1
def u_ref1_code_e := code_eq c_ref1_code.eq_1
theorem u_ref1_code_r {K : TV → Prop} {e : Env} {H : List Ob} : res r_ref1_code e H K = res [.cell 6 true 2, .tmp 7] e H K := by_refl rfl
def u_ref1_code := (And.intro (And.intro (And.intro (And.intro (And.intro @u_ref1_code_L1_e @u_ref1_code_k2_e) (And.intro @u_ref1_code_k3_e @u_ref1_code_b4_e)) (And.intro (And.intro @u_ref1_code_k5_e @u_ref1_code_k6_e) (And.intro @u_ref1_code_L7_e @u_ref1_code_k8_e))) (And.intro (And.intro (And.intro @u_ref1_code_k9_e @u_ref1_code_k10_e) (And.intro @u_ref1_code_k11_e @u_ref1_code_L12_e)) (And.intro (And.intro @u_ref1_code_k13_e @u_ref1_code_k14_e) (And.intro @u_ref1_code_k15_e @u_ref1_code_k16_e)))) (And.intro (And.intro (And.intro @u_ref1_code_k17_e @u_ref1_code_k18_e) (And.intro @u_ref1_code_k19_e @u_ref1_code_k20_e)) (And.intro (And.intro @u_ref1_code_k21_e @u_ref1_code_k22_e) (And.intro @u_ref1_code_e @u_ref1_code_r))))
def go_ref1_code := go_of 82 Tryd.func54 t_ref1_code w_ref1_code rfl

def c_ref1_Stream_symbol_k1 : VCode := .seq (.block 3 (.seq (.ops [po_ 29 (.fieldA 0 0 (.t 3)),
  po_ 30 (.load false 1 (.t 29)),
  mv_ 31 7,
  po_ 32 (.idxA 1 (.t 30) (.t 31)),
  po_ 33 (.load false 1 (.t 32)),
  mv_ 34 6,
  po_ 35 (.bin 3 .eql (.t 33) (.t 34)),
  mv_ 36 35,
  ⟨some 37, .p (.fieldA 1 1 (.t 3)), some ⟨36, true⟩⟩,
  ⟨some 38, .p (.load false 1 (.t 37)), some ⟨36, true⟩⟩,
  ⟨some 39, .p (.mov (.t 7)), some ⟨36, true⟩⟩,
  ⟨some 40, .p (.idxA 1 (.t 38) (.t 39)), some ⟨36, true⟩⟩,
  ⟨some 41, .p (.load false 1 (.t 40)), some ⟨36, true⟩⟩,
  ⟨some 42, .p (.mov (.t 5)), some ⟨36, true⟩⟩,
  ⟨some 43, .p (.bin 3 .eql (.t 41) (.t 42)), some ⟨36, true⟩⟩,
  po_ 44 (.pick (.t 36) (.t 43) (.c (.bool false)))] [0, 3, 5, 6, 7, 44])
 (.cond (.t 44)
 (.seq (.ops [mv_ 45 7,
   mv_ 4 45] [4])
  (.ret))
 (.skip))))
 (.ops [mv_ 27 7,
  po_ 28 (.bin 3 .add (.t 27) (ci_ 1)),
  mv_ 7 28] [0, 3, 5, 6, 7])
def c_ref1_Stream_symbol_L2 : VCode := .seq (.seq (.ops [mv_ 22 7,
  po_ 23 (.fieldA 0 0 (.t 3)),
  po_ 24 (.load false 1 (.t 23)),
  po_ 25 (.lenV (.t 24)),
  po_ 26 (.bin 3 .lss (.t 22) (.t 25))] [0, 3, 5, 6, 7, 26])
 (.cond (.t 26)
 (.skip)
 (.exit 2)))
 c_ref1_Stream_symbol_k1
def c_ref1_Stream_symbol_k3 : VCode := .block 2 (.loop [0, 3, 5, 6, 7] c_ref1_Stream_symbol_L2)
def c_ref1_Stream_symbol_k4 : VCode := .seq (.ops [po_ 7 (.mov (ci_ 0))] [0, 3, 5, 6, 7])
 c_ref1_Stream_symbol_k3
def c_ref1_Stream_symbol_k5 : VCode := .seq (.seq (.ops [mv_ 17 0,
  po_ 18 (.nilc (.t 17)),
  po_ 19 (.fieldA 5 5 (.t 18)),
  po_ 20 (.load false 1 (.t 19)),
  po_ 21 (.bin 3 .neq (.t 20) (ci_ 0))] [0, 3, 5, 6, 21])
 (.cond (.t 21)
 (.seq (.ops [po_ 4 (.mov (.c (.int .i64 (-1))))] [4])
  (.ret))
 (.skip)))
 c_ref1_Stream_symbol_k4
def c_ref1_Stream_symbol_k6 : VCode := .ops [mv_ 10 6,
  po_ 11 (.bin 3 .add (.t 10) (ci_ 1)),
  mv_ 6 11] [0, 3, 5, 6]
def c_ref1_Stream_symbol_k7 : VCode := .seq (.block 1 (.seq (.ops [mv_ 12 5,
  po_ 13 (.bin 3 .mul (.t 12) (ci_ 2)),
  mv_ 14 0,
  so_ 15 (.call 34 [.t 14, .c (.int .i64 ((1 : Nat) : Int))]),
  po_ 16 (.bin 3 .add (.t 13) (.t 15)),
  mv_ 5 16] [0, 3, 5, 6])
 c_ref1_Stream_symbol_k5))
 c_ref1_Stream_symbol_k6
def c_ref1_Stream_symbol_L8 : VCode := .seq (.seq (.ops [mv_ 8 6,
  po_ 9 (.bin 3 .leq (.t 8) (ci_ 15))] [0, 3, 5, 6, 9])
 (.cond (.t 9)
 (.skip)
 (.exit 0)))
 c_ref1_Stream_symbol_k7
def c_ref1_Stream_symbol_k9 : VCode := .block 0 (.loop [0, 3, 5, 6] c_ref1_Stream_symbol_L8)
def c_ref1_Stream_symbol_k10 : VCode := .seq (.ops [mv_ 46 0,
  so_ 47 (.call 35 [.t 46, .c (.int .i64 ((10 : Nat) : Int))])] [])
 (.seq (.ops [po_ 4 (.mov (.c (.int .i64 (-1))))] [4])
 (.ret))
def c_ref1_Stream_symbol_k11 : VCode := .seq (.seq (.ops [po_ 6 (.mov (ci_ 1))] [0, 3, 5, 6])
 c_ref1_Stream_symbol_k9)
 c_ref1_Stream_symbol_k10
def c_ref1_Stream_symbol_k12 : VCode := .seq (.ops [po_ 5 (.mov (ci_ 0))] [0, 3, 5])
 c_ref1_Stream_symbol_k11
def c_ref1_Stream_symbol : VCode := .seq (.ops [so_ 3 (.box (.t 1)),
  po_ 4 (.mov (ci_ 0))] [0, 3])
 c_ref1_Stream_symbol_k12
def r_ref1_Stream_symbol : List VR := [.tmp 4]
theorem t_ref1_Stream_symbol : Tryd.f55.body.bind (trC Tryd.prog Tryd.f55.ntmps) = some (er c_ref1_Stream_symbol) := by kernel_rfl
theorem w_ref1_Stream_symbol : trR Tryd.prog Tryd.f55.results.toList = some r_ref1_Stream_symbol := by kernel_rfl
def u_ref1_Stream_symbol_k1_e := code_eq c_ref1_Stream_symbol_k1.eq_1
def u_ref1_Stream_symbol_L2_e := code_eq c_ref1_Stream_symbol_L2.eq_1
def u_ref1_Stream_symbol_k3_e := code_eq c_ref1_Stream_symbol_k3.eq_1
def u_ref1_Stream_symbol_k4_e := code_eq c_ref1_Stream_symbol_k4.eq_1
def u_ref1_Stream_symbol_k5_e := code_eq c_ref1_Stream_symbol_k5.eq_1
def u_ref1_Stream_symbol_k6_e := code_eq c_ref1_Stream_symbol_k6.eq_1
def u_ref1_Stream_symbol_k7_e := code_eq c_ref1_Stream_symbol_k7.eq_1
def u_ref1_Stream_symbol_L8_e := code_eq c_ref1_Stream_symbol_L8.eq_1
def u_ref1_Stream_symbol_k9_e := code_eq c_ref1_Stream_symbol_k9.eq_1
def u_ref1_Stream_symbol_k10_e := code_eq c_ref1_Stream_symbol_k10.eq_1
def u_ref1_Stream_symbol_k11_e := code_eq c_ref1_Stream_symbol_k11.eq_1
def u_ref1_Stream_symbol_k12_e := code_eq c_ref1_Stream_symbol_k12.eq_1
def u_ref1_Stream_symbol_e := code_eq c_ref1_Stream_symbol.eq_1
theorem u_ref1_Stream_symbol_r {K : TV → Prop} {e : Env} {H : List Ob} : res r_ref1_Stream_symbol e H K = res [.tmp 4] e H K := by_refl rfl
def u_ref1_Stream_symbol := (And.intro (And.intro (And.intro (And.intro @u_ref1_Stream_symbol_k1_e @u_ref1_Stream_symbol_L2_e) (And.intro @u_ref1_Stream_symbol_k3_e @u_ref1_Stream_symbol_k4_e)) (And.intro (And.intro @u_ref1_Stream_symbol_k5_e @u_ref1_Stream_symbol_k6_e) (And.intro @u_ref1_Stream_symbol_k7_e @u_ref1_Stream_symbol_L8_e))) (And.intro (And.intro (And.intro @u_ref1_Stream_symbol_k9_e @u_ref1_Stream_symbol_k10_e) (And.intro @u_ref1_Stream_symbol_k11_e @u_ref1_Stream_symbol_k12_e)) (And.intro @u_ref1_Stream_symbol_e @u_ref1_Stream_symbol_r)))
def go_ref1_Stream_symbol := go_of 48 Tryd.func55 t_ref1_Stream_symbol w_ref1_Stream_symbol rfl

def c_ref1_span_k1 : VCode := .seq (.ops [mv_ 32 11,
  po_ 33 (.bin 3 .add (.t 32) (ci_ 1)),
  mv_ 34 7,
  po_ 35 (.bin 3 .mul (ci_ 2) (.t 34)),
  po_ 36 (.bin 3 .geq (.t 33) (.t 35)),
  mv_ 37 36,
  ⟨some 38, .p (.mov (.t 11)), some ⟨37, true⟩⟩,
  ⟨some 39, .p (.bin 3 .add (.t 38) (ci_ 1)), some ⟨37, true⟩⟩,
  ⟨some 40, .p (.mov (.t 7)), some ⟨37, true⟩⟩,
  ⟨some 41, .p (.bin 3 .rem (.t 39) (.t 40)), some ⟨37, true⟩⟩,
  ⟨some 42, .p (.bin 3 .eql (.t 41) (ci_ 0)), some ⟨37, true⟩⟩,
  po_ 43 (.pick (.t 37) (.t 42) (.c (.bool false)))] [7, 8, 9, 10, 11, 43])
 (.cond (.t 43)
 (.ops [mv_ 44 10,
   po_ 45 (.bin 3 .add (.t 44) (ci_ 1)),
   mv_ 10 45] [7, 8, 9, 10, 11])
 (.skip))
def c_ref1_span_k2 : VCode := .seq (.block 1 (.seq (.ops [mv_ 28 9,
  mv_ 29 10,
  po_ 30 (.bin 3 .shl (ci_ 1) (.t 29)),
  po_ 31 (.bin 3 .add (.t 28) (.t 30)),
  mv_ 9 31] [7, 8, 9, 10, 11])
 c_ref1_span_k1))
 (.ops [mv_ 26 11,
  po_ 27 (.bin 3 .add (.t 26) (ci_ 1)),
  mv_ 11 27] [7, 8, 9, 10, 11])
def c_ref1_span_L3 : VCode := .seq (.seq (.ops [mv_ 23 11,
  mv_ 24 8,
  po_ 25 (.bin 3 .lss (.t 23) (.t 24))] [7, 8, 9, 10, 11, 25])
 (.cond (.t 25)
 (.skip)
 (.exit 0)))
 c_ref1_span_k2
def c_ref1_span_k4 : VCode := .block 0 (.loop [7, 8, 9, 10, 11] c_ref1_span_L3)
def c_ref1_span_k5 : VCode := .seq (.ops [mv_ 46 9,
  mv_ 47 10,
  mv_ 4 46,
  mv_ 5 47] [4, 5])
 (.ret)
def c_ref1_span_k6 : VCode := .seq (.seq (.ops [po_ 11 (.mov (ci_ 0))] [7, 8, 9, 10, 11])
 c_ref1_span_k4)
 c_ref1_span_k5
def c_ref1_span_k7 : VCode := .seq (.ops [po_ 10 (.mov (ci_ 0))] [7, 8, 9, 10])
 c_ref1_span_k6
def c_ref1_span_k8 : VCode := .seq (.ops [mv_ 22 6,
  mv_ 9 22] [7, 8, 9])
 c_ref1_span_k7
def c_ref1_span_k9 : VCode := .seq (.seq (.ops [mv_ 20 1] [0, 6, 7, 8, 20])
 (.cond (.t 20)
 (.seq (.ops [po_ 6 (.mov (ci_ 1))] [0, 6])
  (.seq (.ops [po_ 7 (.mov (ci_ 2))] [0, 6, 7])
  (.ops [mv_ 21 0,
   mv_ 8 21] [6, 7, 8])))
 (.skip)))
 c_ref1_span_k8
def c_ref1_span_k10 : VCode := .seq (.ops [mv_ 18 0,
  po_ 19 (.bin 3 .sub (.t 18) (ci_ 257)),
  mv_ 8 19] [0, 1, 6, 7, 8])
 c_ref1_span_k9
def c_ref1_span_k11 : VCode := .seq (.ops [po_ 7 (.mov (ci_ 4))] [0, 1, 6, 7])
 c_ref1_span_k10
def c_ref1_span_k12 : VCode := .seq (.ops [po_ 6 (.mov (ci_ 3))] [0, 1, 6])
 c_ref1_span_k11
def c_ref1_span_k13 : VCode := .seq (.seq (.ops [mv_ 12 1,
  po_ 13 (.un .not (.t 12)),
  mv_ 14 13,
  ⟨some 15, .p (.mov (.t 0)), some ⟨14, true⟩⟩,
  ⟨some 16, .p (.bin 3 .eql (.t 15) (ci_ 285)), some ⟨14, true⟩⟩,
  po_ 17 (.pick (.t 14) (.t 16) (.c (.bool false)))] [0, 1, 17])
 (.cond (.t 17)
 (.seq (.ops [po_ 4 (.mov (ci_ 258)),
   po_ 5 (.mov (ci_ 0))] [4, 5])
  (.ret))
 (.skip)))
 c_ref1_span_k12
def c_ref1_span : VCode := .seq (.ops [po_ 4 (.mov (ci_ 0)),
  po_ 5 (.mov (ci_ 0))] [0, 1])
 c_ref1_span_k13
def r_ref1_span : List VR := [.tmp 4, .tmp 5]
theorem t_ref1_span : Tryd.f56.body.bind (trC Tryd.prog Tryd.f56.ntmps) = some (er c_ref1_span) := by kernel_rfl
theorem w_ref1_span : trR Tryd.prog Tryd.f56.results.toList = some r_ref1_span := by kernel_rfl
def u_ref1_span_k1_e := code_eq c_ref1_span_k1.eq_1
def u_ref1_span_k2_e := code_eq c_ref1_span_k2.eq_1
def u_ref1_span_L3_e := code_eq c_ref1_span_L3.eq_1
def u_ref1_span_k4_e := code_eq c_ref1_span_k4.eq_1
def u_ref1_span_k5_e := code_eq c_ref1_span_k5.eq_1
def u_ref1_span_k6_e := code_eq c_ref1_span_k6.eq_1
def u_ref1_span_k7_e := code_eq c_ref1_span_k7.eq_1
def u_ref1_span_k8_e := code_eq c_ref1_span_k8.eq_1
def u_ref1_span_k9_e := code_eq c_ref1_span_k9.eq_1
def u_ref1_span_k10_e := code_eq c_ref1_span_k10.eq_1
def u_ref1_span_k11_e := code_eq c_ref1_span_k11.eq_1
def u_ref1_span_k12_e := code_eq c_ref1_span_k12.eq_1
def u_ref1_span_k13_e := code_eq c_ref1_span_k13.eq_1
def u_ref1_span_e := code_eq c_ref1_span.eq_1
theorem u_ref1_span_r {K : TV → Prop} {e : Env} {H : List Ob} : res r_ref1_span e H K = res [.tmp 4, .tmp 5] e H K := by_refl rfl
def u_ref1_span := (And.intro (And.intro (And.intro (And.intro @u_ref1_span_k1_e @u_ref1_span_k2_e) (And.intro @u_ref1_span_L3_e @u_ref1_span_k4_e)) (And.intro (And.intro @u_ref1_span_k5_e @u_ref1_span_k6_e) (And.intro @u_ref1_span_k7_e @u_ref1_span_k8_e))) (And.intro (And.intro (And.intro @u_ref1_span_k9_e @u_ref1_span_k10_e) (And.intro @u_ref1_span_k11_e @u_ref1_span_k12_e)) (And.intro (And.intro @u_ref1_span_k13_e @u_ref1_span_e) @u_ref1_span_r)))
def go_ref1_span := go_of 48 Tryd.func56 t_ref1_span w_ref1_span rfl

def c_ref1_Adler_k1 : VCode := .seq (.block 1 (.seq (.ops [mv_ 12 3,
  mv_ 13 0,
  mv_ 14 5,
  po_ 15 (.idxA 1 (.t 13) (.t 14)),
  po_ 16 (.load false 1 (.t 15)),
  po_ 17 (.conv .u32 (.t 16)),
  po_ 18 (.bin 36 .add (.t 12) (.t 17)),
  po_ 19 (.bin 36 .rem (.t 18) (.c (.int .u32 ((65521 : Nat) : Int)))),
  mv_ 3 19] [0, 3, 4, 5])
 (.ops [mv_ 20 4,
  mv_ 21 3,
  po_ 22 (.bin 36 .add (.t 20) (.t 21)),
  po_ 23 (.bin 36 .rem (.t 22) (.c (.int .u32 ((65521 : Nat) : Int)))),
  mv_ 4 23] [0, 3, 4, 5])))
 (.ops [mv_ 10 5,
  po_ 11 (.bin 3 .add (.t 10) (ci_ 1)),
  mv_ 5 11] [0, 3, 4, 5])
def c_ref1_Adler_L2 : VCode := .seq (.seq (.ops [mv_ 6 5,
  mv_ 7 0,
  po_ 8 (.lenV (.t 7)),
  po_ 9 (.bin 3 .lss (.t 6) (.t 8))] [0, 3, 4, 5, 9])
 (.cond (.t 9)
 (.skip)
 (.exit 0)))
 c_ref1_Adler_k1
def c_ref1_Adler_k3 : VCode := .block 0 (.loop [0, 3, 4, 5] c_ref1_Adler_L2)
def c_ref1_Adler_k4 : VCode := .seq (.ops [mv_ 24 4,
  po_ 25 (.bin 36 .mul (.t 24) (.c (.int .u32 ((65536 : Nat) : Int)))),
  mv_ 26 3,
  po_ 27 (.bin 36 .add (.t 25) (.t 26)),
  mv_ 2 27] [2])
 (.ret)
def c_ref1_Adler_k5 : VCode := .seq (.seq (.ops [po_ 5 (.mov (ci_ 0))] [0, 3, 4, 5])
 c_ref1_Adler_k3)
 c_ref1_Adler_k4
def c_ref1_Adler_k6 : VCode := .seq (.ops [po_ 4 (.mov (.c (.int .u32 ((0 : Nat) : Int))))] [0, 3, 4])
 c_ref1_Adler_k5
def c_ref1_Adler_k7 : VCode := .seq (.ops [po_ 3 (.mov (.c (.int .u32 ((1 : Nat) : Int))))] [0, 3])
 c_ref1_Adler_k6
def c_ref1_Adler : VCode := .seq (.ops [po_ 2 (.mov (.c (.int .u32 ((0 : Nat) : Int))))] [0])
 c_ref1_Adler_k7
def r_ref1_Adler : List VR := [.tmp 2]
theorem t_ref1_Adler : Tryd.f20.body.bind (trC Tryd.prog Tryd.f20.ntmps) = some (er c_ref1_Adler) := by kernel_rfl
theorem w_ref1_Adler : trR Tryd.prog Tryd.f20.results.toList = some r_ref1_Adler := by kernel_rfl
def u_ref1_Adler_k1_e := code_eq c_ref1_Adler_k1.eq_1
def u_ref1_Adler_L2_e := code_eq c_ref1_Adler_L2.eq_1
def u_ref1_Adler_k3_e := code_eq c_ref1_Adler_k3.eq_1
def u_ref1_Adler_k4_e := code_eq c_ref1_Adler_k4.eq_1
def u_ref1_Adler_k5_e := code_eq c_ref1_Adler_k5.eq_1
def u_ref1_Adler_k6_e := code_eq c_ref1_Adler_k6.eq_1
def u_ref1_Adler_k7_e := code_eq c_ref1_Adler_k7.eq_1
def u_ref1_Adler_e := code_eq c_ref1_Adler.eq_1
theorem u_ref1_Adler_r {K : TV → Prop} {e : Env} {H : List Ob} : res r_ref1_Adler e H K = res [.tmp 2] e H K := by_refl rfl
def u_ref1_Adler := (And.intro (And.intro (And.intro (And.intro @u_ref1_Adler_k1_e @u_ref1_Adler_L2_e) (And.intro @u_ref1_Adler_k3_e @u_ref1_Adler_k4_e)) (And.intro (And.intro @u_ref1_Adler_k5_e @u_ref1_Adler_k6_e) (And.intro @u_ref1_Adler_k7_e @u_ref1_Adler_e))) @u_ref1_Adler_r)
def go_ref1_Adler := go_of 28 Tryd.func20 t_ref1_Adler w_ref1_Adler rfl

end Go.Proofs.YtfgljddikcghhaaDoor

