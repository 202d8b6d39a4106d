import Derived.Test.YtfgljddikcghhaaDoorBaseC
import Derived.Test.YtfgljddikcghhaaDoorProg
import Derived.KernelRfl
namespace Go.Proofs.YtfgljddikcghhaaDoor
variable [Globs]
set_option linter.unusedSectionVars false
set_option linter.unusedVariables false
set_option linter.defProp false
set_option maxRecDepth 100000

def c_api_Tell : VCode := .seq (.ops [po_ 2 (.mov (ci_ 0))] [0])
 (.seq (.ops [so_ 3 (.alloc (.val (.int .i64 ((0 : Nat) : Int))))] [0, 3])
 (.seq (.block 0 (.seq (.ops [mv_ 5 0,
  po_ 6 (.eqN 1 (.t 5) (.c .nilIface) false),
  mv_ 4 6] [0, 3, 4])
 (.cond (.t 4)
 (.seq (.ops [po_ 2 (.mov (ci_ 0))] [2])
  (.ret))
 (.seq (.ops [mv_ 8 0,
   po_ 9 (.iface 43 (.t 3)),
   so_ 10 (.call 18 [.t 8, .t 9]),
   mv_ 7 10] [3, 7])
  (.cond (.t 7)
  (.seq (.ops [po_ 11 (.load false 1 (.t 3)),
    mv_ 2 11] [2])
   (.ret))
  (.skip))))))
 (.seq (.ops [po_ 2 (.mov (.c (.int .i64 (-1))))] [2])
 (.ret))))
def r_api_Tell : List VR := [.tmp 2]
theorem t_api_Tell : Tryd.f8.body.bind (trC Tryd.prog Tryd.f8.ntmps) = some (er c_api_Tell) := by kernel_rfl
theorem w_api_Tell : trR Tryd.prog Tryd.f8.results.toList = some r_api_Tell := by kernel_rfl
def u_api_Tell_e := code_eq c_api_Tell.eq_1
theorem u_api_Tell_r {K : TV → Prop} {e : Env} {H : List Ob} : res r_api_Tell e H K = res [.tmp 2] e H K := by_refl rfl
def u_api_Tell := (And.intro @u_api_Tell_e @u_api_Tell_r)
def go_api_Tell := go_of 12 Tryd.func8 t_api_Tell w_api_Tell rfl

def c_law0_Roomy_k1 : VCode := .seq (.ops [mv_ 13 4,
  mv_ 14 3,
  po_ 15 (.idxA 1 (.t 13) (.t 14)),
  ⟨none, .s (.store 1 (.t 15) (.c (.int .u8 ((71 : Nat) : Int)))), none⟩] [3, 4])
 (.seq (.ops [mv_ 16 4,
  mv_ 17 3,
  po_ 18 (.bin 3 .add (.t 17) (ci_ 1)),
  po_ 19 (.idxA 1 (.t 16) (.t 18)),
  ⟨none, .s (.store 1 (.t 19) (.c (.int .u8 ((72 : Nat) : Int)))), none⟩] [3, 4])
 (.seq (.ops [mv_ 20 4,
  mv_ 21 3,
  po_ 22 (.slV 1 (.t 20) none (some (.t 21))),
  mv_ 2 22] [2])
 (.ret)))
def c_law0_Roomy_k2 : VCode := .seq (.ops [mv_ 10 4,
  mv_ 11 0,
  so_ 12 (.copy 1 (.t 10) (.t 11))] [3, 4])
 c_law0_Roomy_k1
def c_law0_Roomy_k3 : VCode := .seq (.ops [mv_ 7 3,
  po_ 8 (.bin 3 .add (.t 7) (ci_ 2)),
  so_ 9 (.mks 1 1 (.val (.int .u8 ((0 : Nat) : Int))) (.t 8) (.t 8)),
  mv_ 4 9] [0, 3, 4])
 c_law0_Roomy_k2
def c_law0_Roomy_k4 : VCode := .seq (.ops [mv_ 5 0,
  po_ 6 (.lenV (.t 5)),
  mv_ 3 6] [0, 3])
 c_law0_Roomy_k3
def c_law0_Roomy : VCode := .seq (.ops [po_ 2 (.mov (.c (.slice none 0 0)))] [0])
 c_law0_Roomy_k4
def r_law0_Roomy : List VR := [.tmp 2]
theorem t_law0_Roomy : Tryd.f6.body.bind (trC Tryd.prog Tryd.f6.ntmps) = some (er c_law0_Roomy) := by kernel_rfl
theorem w_law0_Roomy : trR Tryd.prog Tryd.f6.results.toList = some r_law0_Roomy := by kernel_rfl
def u_law0_Roomy_k1_e := code_eq c_law0_Roomy_k1.eq_1
def u_law0_Roomy_k2_e := code_eq c_law0_Roomy_k2.eq_1
def u_law0_Roomy_k3_e := code_eq c_law0_Roomy_k3.eq_1
def u_law0_Roomy_k4_e := code_eq c_law0_Roomy_k4.eq_1
def u_law0_Roomy_e := code_eq c_law0_Roomy.eq_1
theorem u_law0_Roomy_r {K : TV → Prop} {e : Env} {H : List Ob} : res r_law0_Roomy e H K = res [.tmp 2] e H K := by_refl rfl
def u_law0_Roomy := (And.intro (And.intro (And.intro @u_law0_Roomy_k1_e @u_law0_Roomy_k2_e) (And.intro @u_law0_Roomy_k3_e @u_law0_Roomy_k4_e)) (And.intro @u_law0_Roomy_e @u_law0_Roomy_r))
def go_law0_Roomy := go_of 23 Tryd.func6 t_law0_Roomy w_law0_Roomy rfl

def c_law0_Still_L1 : VCode := .seq (.seq (.ops [mv_ 36 8,
  mv_ 37 6,
  po_ 38 (.lenV (.t 37)),
  po_ 39 (.bin 3 .lss (.t 36) (.t 38))] [6, 7, 8, 39])
 (.cond (.t 39)
 (.skip)
 (.exit 0)))
 (.seq (.block 1 (.ops [mv_ 42 6,
  mv_ 43 8,
  mv_ 44 6,
  mv_ 45 8,
  po_ 46 (.idxA 1 (.t 44) (.t 45)),
  po_ 47 (.load false 1 (.t 46)),
  po_ 48 (.bin 5 .xor (.t 47) (.c (.int .u8 ((85 : Nat) : Int)))),
  po_ 49 (.idxA 1 (.t 42) (.t 43)),
  ⟨none, .s (.store 1 (.t 49) (.t 48)), none⟩] [6, 7, 8]))
 (.ops [mv_ 40 8,
  po_ 41 (.bin 3 .add (.t 40) (ci_ 1)),
  mv_ 8 41] [6, 7, 8]))
def c_law0_Still_k2 : VCode := .block 0 (.loop [6, 7, 8] c_law0_Still_L1)
def c_law0_Still_k3 : VCode := .seq (.ops [mv_ 50 7,
  mv_ 4 50] [4])
 (.ret)
def c_law0_Still_k4 : VCode := .seq (.seq (.ops [po_ 8 (.mov (ci_ 0))] [6, 7, 8])
 c_law0_Still_k2)
 c_law0_Still_k3
def c_law0_Still_k5 : VCode := .seq (.ops [mv_ 20 7,
  mv_ 21 20,
  ⟨some 22, .p (.mov (.t 6)), some ⟨21, true⟩⟩,
  ⟨some 23, .p (.mov (.t 5)), some ⟨21, true⟩⟩,
  ⟨some 24, .p (.idxA 1 (.t 22) (.t 23)), some ⟨21, true⟩⟩,
  ⟨some 25, .p (.load false 1 (.t 24)), some ⟨21, true⟩⟩,
  ⟨some 26, .p (.bin 5 .eql (.t 25) (.c (.int .u8 ((71 : Nat) : Int)))), some ⟨21, true⟩⟩,
  po_ 27 (.pick (.t 21) (.t 26) (.c (.bool false))),
  mv_ 28 27,
  ⟨some 29, .p (.mov (.t 6)), some ⟨28, true⟩⟩,
  ⟨some 30, .p (.mov (.t 5)), some ⟨28, true⟩⟩,
  ⟨some 31, .p (.bin 3 .add (.t 30) (ci_ 1)), some ⟨28, true⟩⟩,
  ⟨some 32, .p (.idxA 1 (.t 29) (.t 31)), some ⟨28, true⟩⟩,
  ⟨some 33, .p (.load false 1 (.t 32)), some ⟨28, true⟩⟩,
  ⟨some 34, .p (.bin 5 .eql (.t 33) (.c (.int .u8 ((72 : Nat) : Int)))), some ⟨28, true⟩⟩,
  po_ 35 (.pick (.t 28) (.t 34) (.c (.bool false))),
  mv_ 7 35] [6, 7])
 c_law0_Still_k4
def c_law0_Still_k6 : VCode := .seq (.ops [mv_ 15 6,
  mv_ 16 5,
  po_ 17 (.slV 1 (.t 15) none (some (.t 16))),
  mv_ 18 1,
  so_ 19 (.call 11 [.t 17, .t 18]),
  mv_ 7 19] [5, 6, 7])
 c_law0_Still_k5
def c_law0_Still_k7 : VCode := .seq (.ops [mv_ 11 0,
  mv_ 12 5,
  po_ 13 (.bin 3 .add (.t 12) (ci_ 2)),
  po_ 14 (.slV 1 (.t 11) none (some (.t 13))),
  mv_ 6 14] [1, 5, 6])
 c_law0_Still_k6
def c_law0_Still_k8 : VCode := .seq (.ops [mv_ 9 1,
  po_ 10 (.lenV (.t 9)),
  mv_ 5 10] [0, 1, 5])
 c_law0_Still_k7
def c_law0_Still : VCode := .seq (.ops [po_ 4 (.mov (.c (.bool false)))] [0, 1])
 c_law0_Still_k8
def r_law0_Still : List VR := [.tmp 4]
theorem t_law0_Still : Tryd.f9.body.bind (trC Tryd.prog Tryd.f9.ntmps) = some (er c_law0_Still) := by kernel_rfl
theorem w_law0_Still : trR Tryd.prog Tryd.f9.results.toList = some r_law0_Still := by kernel_rfl
def u_law0_Still_L1_e := code_eq c_law0_Still_L1.eq_1
def u_law0_Still_k2_e := code_eq c_law0_Still_k2.eq_1
def u_law0_Still_k3_e := code_eq c_law0_Still_k3.eq_1
def u_law0_Still_k4_e := code_eq c_law0_Still_k4.eq_1
def u_law0_Still_k5_e := code_eq c_law0_Still_k5.eq_1
def u_law0_Still_k6_e := code_eq c_law0_Still_k6.eq_1
def u_law0_Still_k7_e := code_eq c_law0_Still_k7.eq_1
def u_law0_Still_k8_e := code_eq c_law0_Still_k8.eq_1
def u_law0_Still_e := code_eq c_law0_Still.eq_1
theorem u_law0_Still_r {K : TV → Prop} {e : Env} {H : List Ob} : res r_law0_Still e H K = res [.tmp 4] e H K := by_refl rfl
def u_law0_Still := (And.intro (And.intro (And.intro (And.intro @u_law0_Still_L1_e @u_law0_Still_k2_e) (And.intro @u_law0_Still_k3_e @u_law0_Still_k4_e)) (And.intro (And.intro @u_law0_Still_k5_e @u_law0_Still_k6_e) (And.intro @u_law0_Still_k7_e @u_law0_Still_k8_e))) (And.intro @u_law0_Still_e @u_law0_Still_r))
def go_law0_Still := go_of 51 Tryd.func9 t_law0_Still w_law0_Still rfl

def c_law0_Same_k1 : VCode := .seq (.block 1 (.seq (.draw 4 [mv_ 17 0,
  mv_ 18 5,
  po_ 19 (.idxA 1 (.t 17) (.t 18)),
  po_ 20 (.load false 1 (.t 19)),
  mv_ 21 1,
  mv_ 22 5,
  po_ 23 (.idxA 1 (.t 21) (.t 22)),
  po_ 24 (.load false 1 (.t 23)),
  po_ 25 (.bin 5 .neq (.t 20) (.t 24))] [0, 1, 5, 25])
 (.cond (.t 25)
 (.seq (.ops [po_ 4 (.mov (.c (.bool false)))] [4])
  (.ret))
 (.skip))))
 (.ops [mv_ 15 5,
  po_ 16 (.bin 3 .add (.t 15) (ci_ 1)),
  mv_ 5 16] [0, 1, 5])
def c_law0_Same_L2 : VCode := .seq (.seq (.ops [mv_ 11 5,
  mv_ 12 0,
  po_ 13 (.lenV (.t 12)),
  po_ 14 (.bin 3 .lss (.t 11) (.t 13))] [0, 1, 5, 14])
 (.cond (.t 14)
 (.skip)
 (.exit 0)))
 c_law0_Same_k1
def c_law0_Same_k3 : VCode := .block 0 (.loop [0, 1, 5] c_law0_Same_L2)
def c_law0_Same_k4 : VCode := .seq (.ops [po_ 4 (.mov (.c (.bool true)))] [4])
 (.ret)
def c_law0_Same_k5 : VCode := .seq (.seq (.ops [po_ 5 (.mov (ci_ 0))] [0, 1, 5])
 c_law0_Same_k3)
 c_law0_Same_k4
def c_law0_Same_k6 : VCode := .seq (.seq (.ops [mv_ 6 0,
  po_ 7 (.lenV (.t 6)),
  mv_ 8 1,
  po_ 9 (.lenV (.t 8)),
  po_ 10 (.bin 3 .neq (.t 7) (.t 9))] [0, 1, 10])
 (.cond (.t 10)
 (.seq (.ops [po_ 4 (.mov (.c (.bool false)))] [4])
  (.ret))
 (.skip)))
 c_law0_Same_k5
def c_law0_Same : VCode := .seq (.ops [po_ 4 (.mov (.c (.bool false)))] [0, 1])
 c_law0_Same_k6
def r_law0_Same : List VR := [.tmp 4]
theorem t_law0_Same : Tryd.f11.body.bind (trC Tryd.prog Tryd.f11.ntmps) = some (er c_law0_Same) := by kernel_rfl
theorem w_law0_Same : trR Tryd.prog Tryd.f11.results.toList = some r_law0_Same := by kernel_rfl
def u_law0_Same_k1_e := code_eq c_law0_Same_k1.eq_1
def u_law0_Same_L2_e := code_eq c_law0_Same_L2.eq_1
def u_law0_Same_k3_e := code_eq c_law0_Same_k3.eq_1
def u_law0_Same_k4_e := code_eq c_law0_Same_k4.eq_1
def u_law0_Same_k5_e := code_eq c_law0_Same_k5.eq_1
def u_law0_Same_k6_e := code_eq c_law0_Same_k6.eq_1
def u_law0_Same_e := code_eq c_law0_Same.eq_1
theorem u_law0_Same_r {K : TV → Prop} {e : Env} {H : List Ob} : res r_law0_Same e H K = res [.tmp 4] e H K := by_refl rfl
def u_law0_Same := (And.intro (And.intro (And.intro @u_law0_Same_k1_e @u_law0_Same_L2_e) (And.intro @u_law0_Same_k3_e @u_law0_Same_k4_e)) (And.intro (And.intro @u_law0_Same_k5_e @u_law0_Same_k6_e) (And.intro @u_law0_Same_e @u_law0_Same_r)))
def go_law0_Same := go_of 26 Tryd.func11 t_law0_Same w_law0_Same rfl

end Go.Proofs.YtfgljddikcghhaaDoor

