/- The code of some functions, as the machine of values has it: printed by vm.py out of the program; each is the program's own (t_..: by the kernel). -/
import Derived.Test.YtknphdcjopaaoaaVmO
import Derived.Test.YtknphdcjopaaoaaProg
import Derived.KernelRfl
namespace Go.Proofs.Ytknphdcjopaaoaa
set_option linter.unusedVariables false
set_option linter.defProp false
set_option maxRecDepth 100000

/-! gitlike/diff.Similarity -/
def c_diff_Similarity_L1 : VCode := .seq (.ops [⟨some 19, .p (.bin 3 .lss (.t 18) (.t 17)), none⟩] [0, 1, 5, 16, 17, 18, 19])
  (.seq (.cond (.t 19)
  (.skip)
  (.exit 0))
  (.seq (.block 1 (.seq (.ops [⟨some 20, .p (.idxA 1 (.t 16) (.t 18)), none⟩,
    ⟨some 21, .p (.load false 1 (.t 20)), none⟩,
    ⟨some 7, .p (.mov (.t 21)), none⟩] [0, 1, 5, 7, 16, 17, 18])
  (.ops [⟨some 22, .p (.mov (.t 5)), none⟩,
    ⟨some 23, .p (.mov (.t 7)), none⟩,
    ⟨some 24, .p (.gen (.look .str (.val (.int .i64 ((0 : Nat) : Int))) false) [.t 22, .t 23]), none⟩,
    ⟨some 25, .p (.bin 3 .add (.t 24) (.c (.int .i64 ((1 : Nat) : Int)))), none⟩,
    ⟨none, .s (.mupd .str (.t 22) (.t 23) (.t 25)), none⟩] [0, 1, 5, 16, 17, 18])))
  (.ops [⟨some 26, .p (.bin 3 .add (.t 18) (.c (.int .i64 ((1 : Nat) : Int)))), none⟩,
    ⟨some 18, .p (.mov (.t 26)), none⟩] [0, 1, 5, 16, 17, 18])))
def c_diff_Similarity_b2 : VCode := .seq (.ops [⟨some 38, .p (.mov (.t 5)), none⟩,
    ⟨some 39, .p (.mov (.t 10)), none⟩,
    ⟨some 40, .p (.gen (.look .str (.val (.int .i64 ((0 : Nat) : Int))) false) [.t 38, .t 39]), none⟩,
    ⟨some 41, .p (.bin 3 .sub (.t 40) (.c (.int .i64 ((1 : Nat) : Int)))), none⟩,
    ⟨none, .s (.mupd .str (.t 38) (.t 39) (.t 41)), none⟩] [0, 1, 5, 8, 10, 28, 29, 30])
  (.ops [⟨some 42, .p (.mov (.t 8)), none⟩,
    ⟨some 43, .p (.mov (.t 10)), none⟩,
    ⟨some 44, .p (.lenS (.t 43)), none⟩,
    ⟨some 45, .p (.bin 3 .add (.t 42) (.t 44)), none⟩,
    ⟨some 8, .p (.mov (.t 45)), none⟩] [0, 1, 5, 8, 28, 29, 30])
def c_diff_Similarity_k3 : VCode := .seq (.ops [⟨some 34, .p (.mov (.t 5)), none⟩,
    ⟨some 35, .p (.mov (.t 10)), none⟩,
    ⟨some 36, .p (.gen (.look .str (.val (.int .i64 ((0 : Nat) : Int))) false) [.t 34, .t 35]), none⟩,
    ⟨some 37, .p (.bin 3 .gtr (.t 36) (.c (.int .i64 ((0 : Nat) : Int)))), none⟩] [0, 1, 5, 8, 10, 28, 29, 30, 37])
  (.cond (.t 37)
  c_diff_Similarity_b2
  (.skip))
def c_diff_Similarity_k4 : VCode := .seq (.block 3 (.seq (.ops [⟨some 32, .p (.idxA 1 (.t 28) (.t 30)), none⟩,
    ⟨some 33, .p (.load false 1 (.t 32)), none⟩,
    ⟨some 10, .p (.mov (.t 33)), none⟩] [0, 1, 5, 8, 10, 28, 29, 30])
  c_diff_Similarity_k3))
  (.ops [⟨some 46, .p (.bin 3 .add (.t 30) (.c (.int .i64 ((1 : Nat) : Int)))), none⟩,
    ⟨some 30, .p (.mov (.t 46)), none⟩] [0, 1, 5, 8, 28, 29, 30])
def c_diff_Similarity_k5 : VCode := .seq (.cond (.t 31)
  (.skip)
  (.exit 2))
  c_diff_Similarity_k4
def c_diff_Similarity_L6 : VCode := .seq (.ops [⟨some 31, .p (.bin 3 .lss (.t 30) (.t 29)), none⟩] [0, 1, 5, 8, 28, 29, 30, 31])
  c_diff_Similarity_k5
def c_diff_Similarity_k7 : VCode := .block 2 (.loop [0, 1, 5, 8, 28, 29, 30] c_diff_Similarity_L6)
def c_diff_Similarity_k8 : VCode := .seq (.ops [⟨some 47, .p (.mov (.t 8)), none⟩,
    ⟨some 48, .p (.bin 3 .mul (.c (.int .i64 ((200 : Nat) : Int))) (.t 47)), none⟩,
    ⟨some 49, .p (.mov (.t 0)), none⟩,
    ⟨some 50, .p (.lenV (.t 49)), none⟩,
    ⟨some 51, .p (.mov (.t 1)), none⟩,
    ⟨some 52, .p (.lenV (.t 51)), none⟩,
    ⟨some 53, .p (.bin 3 .add (.t 50) (.t 52)), none⟩,
    ⟨some 54, .p (.bin 3 .quo (.t 48) (.t 53)), none⟩,
    ⟨some 4, .p (.mov (.t 54)), none⟩] [4])
  (.ret)
def c_diff_Similarity_k9 : VCode := .seq (.seq (.ops [⟨some 27, .p (.mov (.t 1)), none⟩,
    ⟨some 28, .s (.call 23 [.t 27]), none⟩,
    ⟨some 29, .p (.lenV (.t 28)), none⟩,
    ⟨some 30, .p (.mov (.c (.int .i64 ((0 : Nat) : Int)))), none⟩] [0, 1, 5, 8, 28, 29, 30])
  c_diff_Similarity_k7)
  c_diff_Similarity_k8
def c_diff_Similarity_k10 : VCode := .seq (.ops [⟨some 8, .p (.mov (.c (.int .i64 ((0 : Nat) : Int)))), none⟩] [0, 1, 5, 8])
  c_diff_Similarity_k9
def c_diff_Similarity_k11 : VCode := .seq (.seq (.ops [⟨some 15, .p (.mov (.t 0)), none⟩,
    ⟨some 16, .s (.call 23 [.t 15]), none⟩,
    ⟨some 17, .p (.lenV (.t 16)), none⟩,
    ⟨some 18, .p (.mov (.c (.int .i64 ((0 : Nat) : Int)))), none⟩] [0, 1, 5, 16, 17, 18])
  (.block 0 (.loop [0, 1, 5, 16, 17, 18] c_diff_Similarity_L1)))
  c_diff_Similarity_k10
def c_diff_Similarity_k12 : VCode := .seq (.ops [⟨some 14, .s (.mkm .str none), none⟩,
    ⟨some 5, .p (.mov (.t 14)), none⟩] [0, 1, 5])
  c_diff_Similarity_k11
def c_diff_Similarity_k13 : VCode := .seq (.seq (.ops [⟨some 11, .p (.mov (.t 0)), none⟩,
    ⟨some 12, .p (.mov (.t 1)), none⟩,
    ⟨some 13, .s (.call 31 [.t 11, .t 12]), none⟩] [0, 1, 13])
  (.cond (.t 13)
  (.seq (.ops [⟨some 4, .p (.mov (.c (.int .i64 ((100 : Nat) : Int)))), none⟩] [4])
    (.ret))
  (.skip)))
  c_diff_Similarity_k12
def c_diff_Similarity : VCode := .seq (.ops [⟨some 4, .p (.mov (.c (.int .i64 ((0 : Nat) : Int)))), none⟩] [0, 1])
  c_diff_Similarity_k13
def r_diff_Similarity : List VR := [.tmp 4]
theorem t_diff_Similarity : Try.f16.body.bind (trC Try.prog Try.f16.ntmps) = some (er c_diff_Similarity) := by kernel_rfl
theorem w_diff_Similarity : trR Try.prog Try.f16.results.toList = some r_diff_Similarity := by kernel_rfl
theorem u_diff_Similarity_L1_e {P : Program} {Q : VEx → Env → List Ob → Prop} {e : Env} {H : List Ob} : vwp P c_diff_Similarity_L1 Q e H = vwp P (.seq (.ops [⟨some 19, .p (.bin 3 .lss (.t 18) (.t 17)), none⟩] [0, 1, 5, 16, 17, 18, 19])
  (.seq (.cond (.t 19)
  (.skip)
  (.exit 0))
  (.seq (.block 1 (.seq (.ops [⟨some 20, .p (.idxA 1 (.t 16) (.t 18)), none⟩,
    ⟨some 21, .p (.load false 1 (.t 20)), none⟩,
    ⟨some 7, .p (.mov (.t 21)), none⟩] [0, 1, 5, 7, 16, 17, 18])
  (.ops [⟨some 22, .p (.mov (.t 5)), none⟩,
    ⟨some 23, .p (.mov (.t 7)), none⟩,
    ⟨some 24, .p (.gen (.look .str (.val (.int .i64 ((0 : Nat) : Int))) false) [.t 22, .t 23]), none⟩,
    ⟨some 25, .p (.bin 3 .add (.t 24) (.c (.int .i64 ((1 : Nat) : Int)))), none⟩,
    ⟨none, .s (.mupd .str (.t 22) (.t 23) (.t 25)), none⟩] [0, 1, 5, 16, 17, 18])))
  (.ops [⟨some 26, .p (.bin 3 .add (.t 18) (.c (.int .i64 ((1 : Nat) : Int)))), none⟩,
    ⟨some 18, .p (.mov (.t 26)), none⟩] [0, 1, 5, 16, 17, 18])))) Q e H := by_refl rfl
theorem u_diff_Similarity_b2_e {P : Program} {Q : VEx → Env → List Ob → Prop} {e : Env} {H : List Ob} : vwp P c_diff_Similarity_b2 Q e H = vwp P (.seq (.ops [⟨some 38, .p (.mov (.t 5)), none⟩,
    ⟨some 39, .p (.mov (.t 10)), none⟩,
    ⟨some 40, .p (.gen (.look .str (.val (.int .i64 ((0 : Nat) : Int))) false) [.t 38, .t 39]), none⟩,
    ⟨some 41, .p (.bin 3 .sub (.t 40) (.c (.int .i64 ((1 : Nat) : Int)))), none⟩,
    ⟨none, .s (.mupd .str (.t 38) (.t 39) (.t 41)), none⟩] [0, 1, 5, 8, 10, 28, 29, 30])
  (.ops [⟨some 42, .p (.mov (.t 8)), none⟩,
    ⟨some 43, .p (.mov (.t 10)), none⟩,
    ⟨some 44, .p (.lenS (.t 43)), none⟩,
    ⟨some 45, .p (.bin 3 .add (.t 42) (.t 44)), none⟩,
    ⟨some 8, .p (.mov (.t 45)), none⟩] [0, 1, 5, 8, 28, 29, 30])) Q e H := by_refl rfl
theorem u_diff_Similarity_k3_e {P : Program} {Q : VEx → Env → List Ob → Prop} {e : Env} {H : List Ob} : vwp P c_diff_Similarity_k3 Q e H = vwp P (.seq (.ops [⟨some 34, .p (.mov (.t 5)), none⟩,
    ⟨some 35, .p (.mov (.t 10)), none⟩,
    ⟨some 36, .p (.gen (.look .str (.val (.int .i64 ((0 : Nat) : Int))) false) [.t 34, .t 35]), none⟩,
    ⟨some 37, .p (.bin 3 .gtr (.t 36) (.c (.int .i64 ((0 : Nat) : Int)))), none⟩] [0, 1, 5, 8, 10, 28, 29, 30, 37])
  (.cond (.t 37)
  c_diff_Similarity_b2
  (.skip))) Q e H := by_refl rfl
theorem u_diff_Similarity_k4_e {P : Program} {Q : VEx → Env → List Ob → Prop} {e : Env} {H : List Ob} : vwp P c_diff_Similarity_k4 Q e H = vwp P (.seq (.block 3 (.seq (.ops [⟨some 32, .p (.idxA 1 (.t 28) (.t 30)), none⟩,
    ⟨some 33, .p (.load false 1 (.t 32)), none⟩,
    ⟨some 10, .p (.mov (.t 33)), none⟩] [0, 1, 5, 8, 10, 28, 29, 30])
  c_diff_Similarity_k3))
  (.ops [⟨some 46, .p (.bin 3 .add (.t 30) (.c (.int .i64 ((1 : Nat) : Int)))), none⟩,
    ⟨some 30, .p (.mov (.t 46)), none⟩] [0, 1, 5, 8, 28, 29, 30])) Q e H := by_refl rfl
theorem u_diff_Similarity_k5_e {P : Program} {Q : VEx → Env → List Ob → Prop} {e : Env} {H : List Ob} : vwp P c_diff_Similarity_k5 Q e H = vwp P (.seq (.cond (.t 31)
  (.skip)
  (.exit 2))
  c_diff_Similarity_k4) Q e H := by_refl rfl
theorem u_diff_Similarity_L6_e {P : Program} {Q : VEx → Env → List Ob → Prop} {e : Env} {H : List Ob} : vwp P c_diff_Similarity_L6 Q e H = vwp P (.seq (.ops [⟨some 31, .p (.bin 3 .lss (.t 30) (.t 29)), none⟩] [0, 1, 5, 8, 28, 29, 30, 31])
  c_diff_Similarity_k5) Q e H := by_refl rfl
theorem u_diff_Similarity_k7_e {P : Program} {Q : VEx → Env → List Ob → Prop} {e : Env} {H : List Ob} : vwp P c_diff_Similarity_k7 Q e H = vwp P (.block 2 (.loop [0, 1, 5, 8, 28, 29, 30] c_diff_Similarity_L6)) Q e H := by_refl rfl
theorem u_diff_Similarity_k8_e {P : Program} {Q : VEx → Env → List Ob → Prop} {e : Env} {H : List Ob} : vwp P c_diff_Similarity_k8 Q e H = vwp P (.seq (.ops [⟨some 47, .p (.mov (.t 8)), none⟩,
    ⟨some 48, .p (.bin 3 .mul (.c (.int .i64 ((200 : Nat) : Int))) (.t 47)), none⟩,
    ⟨some 49, .p (.mov (.t 0)), none⟩,
    ⟨some 50, .p (.lenV (.t 49)), none⟩,
    ⟨some 51, .p (.mov (.t 1)), none⟩,
    ⟨some 52, .p (.lenV (.t 51)), none⟩,
    ⟨some 53, .p (.bin 3 .add (.t 50) (.t 52)), none⟩,
    ⟨some 54, .p (.bin 3 .quo (.t 48) (.t 53)), none⟩,
    ⟨some 4, .p (.mov (.t 54)), none⟩] [4])
  (.ret)) Q e H := by_refl rfl
theorem u_diff_Similarity_k9_e {P : Program} {Q : VEx → Env → List Ob → Prop} {e : Env} {H : List Ob} : vwp P c_diff_Similarity_k9 Q e H = vwp P (.seq (.seq (.ops [⟨some 27, .p (.mov (.t 1)), none⟩,
    ⟨some 28, .s (.call 23 [.t 27]), none⟩,
    ⟨some 29, .p (.lenV (.t 28)), none⟩,
    ⟨some 30, .p (.mov (.c (.int .i64 ((0 : Nat) : Int)))), none⟩] [0, 1, 5, 8, 28, 29, 30])
  c_diff_Similarity_k7)
  c_diff_Similarity_k8) Q e H := by_refl rfl
theorem u_diff_Similarity_k10_e {P : Program} {Q : VEx → Env → List Ob → Prop} {e : Env} {H : List Ob} : vwp P c_diff_Similarity_k10 Q e H = vwp P (.seq (.ops [⟨some 8, .p (.mov (.c (.int .i64 ((0 : Nat) : Int)))), none⟩] [0, 1, 5, 8])
  c_diff_Similarity_k9) Q e H := by_refl rfl
theorem u_diff_Similarity_k11_e {P : Program} {Q : VEx → Env → List Ob → Prop} {e : Env} {H : List Ob} : vwp P c_diff_Similarity_k11 Q e H = vwp P (.seq (.seq (.ops [⟨some 15, .p (.mov (.t 0)), none⟩,
    ⟨some 16, .s (.call 23 [.t 15]), none⟩,
    ⟨some 17, .p (.lenV (.t 16)), none⟩,
    ⟨some 18, .p (.mov (.c (.int .i64 ((0 : Nat) : Int)))), none⟩] [0, 1, 5, 16, 17, 18])
  (.block 0 (.loop [0, 1, 5, 16, 17, 18] c_diff_Similarity_L1)))
  c_diff_Similarity_k10) Q e H := by_refl rfl
theorem u_diff_Similarity_k12_e {P : Program} {Q : VEx → Env → List Ob → Prop} {e : Env} {H : List Ob} : vwp P c_diff_Similarity_k12 Q e H = vwp P (.seq (.ops [⟨some 14, .s (.mkm .str none), none⟩,
    ⟨some 5, .p (.mov (.t 14)), none⟩] [0, 1, 5])
  c_diff_Similarity_k11) Q e H := by_refl rfl
theorem u_diff_Similarity_k13_e {P : Program} {Q : VEx → Env → List Ob → Prop} {e : Env} {H : List Ob} : vwp P c_diff_Similarity_k13 Q e H = vwp P (.seq (.seq (.ops [⟨some 11, .p (.mov (.t 0)), none⟩,
    ⟨some 12, .p (.mov (.t 1)), none⟩,
    ⟨some 13, .s (.call 31 [.t 11, .t 12]), none⟩] [0, 1, 13])
  (.cond (.t 13)
  (.seq (.ops [⟨some 4, .p (.mov (.c (.int .i64 ((100 : Nat) : Int)))), none⟩] [4])
    (.ret))
  (.skip)))
  c_diff_Similarity_k12) Q e H := by_refl rfl
theorem u_diff_Similarity_e {P : Program} {Q : VEx → Env → List Ob → Prop} {e : Env} {H : List Ob} : vwp P c_diff_Similarity Q e H = vwp P (.seq (.ops [⟨some 4, .p (.mov (.c (.int .i64 ((0 : Nat) : Int)))), none⟩] [0, 1])
  c_diff_Similarity_k13) Q e H := by_refl rfl
theorem u_diff_Similarity_r {K : TV → Prop} {e : Env} {H : List Ob} : res r_diff_Similarity e H K = res [.tmp 4] e H K := by_refl rfl
def u_diff_Similarity := (And.intro (And.intro (And.intro (And.intro @u_diff_Similarity_L1_e @u_diff_Similarity_b2_e) (And.intro @u_diff_Similarity_k3_e @u_diff_Similarity_k4_e)) (And.intro (And.intro @u_diff_Similarity_k5_e @u_diff_Similarity_L6_e) (And.intro @u_diff_Similarity_k7_e @u_diff_Similarity_k8_e))) (And.intro (And.intro (And.intro @u_diff_Similarity_k9_e @u_diff_Similarity_k10_e) (And.intro @u_diff_Similarity_k11_e @u_diff_Similarity_k12_e)) (And.intro (And.intro @u_diff_Similarity_k13_e @u_diff_Similarity_e) @u_diff_Similarity_r)))
theorem go_diff_Similarity {args : List TV} {H : List Ob} {R : TV → List Ob → Prop} (hn : args.length ≤ 55) (h : vwp Try.prog c_diff_Similarity (atEnd r_diff_Similarity R) (argsE 0 args) H) : VCalls Try.prog 16 args H R := vcalls_of Try.func16 t_diff_Similarity w_diff_Similarity hn h

/-! gitlike/gitlikeref10.Similarity -/
def c_ref10_Similarity_b1 : VCode := .seq (.ops [⟨some 51, .p (.mov (.t 7)), none⟩,
    ⟨some 52, .p (.mov (.t 10)), none⟩,
    ⟨some 53, .p (.idxA 1 (.t 51) (.t 52)), none⟩,
    ⟨none, .s (.store 1 (.t 53) (.c (.bool true))), none⟩] [0, 1, 5, 6, 7, 8, 9])
  (.seq (.ops [⟨some 54, .p (.mov (.t 8)), none⟩,
    ⟨some 55, .p (.mov (.t 5)), none⟩,
    ⟨some 56, .p (.mov (.t 9)), none⟩,
    ⟨some 57, .p (.idxA 1 (.t 55) (.t 56)), none⟩,
    ⟨some 58, .p (.load false 1 (.t 57)), none⟩,
    ⟨some 59, .p (.lenS (.t 58)), none⟩,
    ⟨some 60, .p (.bin 3 .add (.t 54) (.t 59)), none⟩,
    ⟨some 8, .p (.mov (.t 60)), none⟩] [0, 1, 5, 6, 7, 8, 9])
  (.exit 2))
def c_ref10_Similarity_k2 : VCode := .seq (.block 3 (.seq (.draw 14 [⟨some 35, .p (.mov (.t 7)), none⟩,
    ⟨some 36, .p (.mov (.t 10)), none⟩,
    ⟨some 37, .p (.idxA 1 (.t 35) (.t 36)), none⟩,
    ⟨some 38, .p (.load false 1 (.t 37)), none⟩,
    ⟨some 39, .p (.un .not (.t 38)), none⟩,
    ⟨some 40, .p (.mov (.t 39)), none⟩,
    ⟨some 41, .p (.mov (.t 6)), some ⟨40, true⟩⟩,
    ⟨some 42, .p (.mov (.t 10)), some ⟨40, true⟩⟩,
    ⟨some 43, .p (.idxA 1 (.t 41) (.t 42)), some ⟨40, true⟩⟩,
    ⟨some 44, .p (.load false 1 (.t 43)), some ⟨40, true⟩⟩,
    ⟨some 45, .p (.mov (.t 5)), some ⟨40, true⟩⟩,
    ⟨some 46, .p (.mov (.t 9)), some ⟨40, true⟩⟩,
    ⟨some 47, .p (.idxA 1 (.t 45) (.t 46)), some ⟨40, true⟩⟩,
    ⟨some 48, .p (.load false 1 (.t 47)), some ⟨40, true⟩⟩,
    ⟨some 49, .p (.bin 9 .eql (.t 44) (.t 48)), some ⟨40, true⟩⟩,
    ⟨some 50, .p (.pick (.t 40) (.t 49) (.c (.bool false))), none⟩] [0, 1, 5, 6, 7, 8, 9, 10, 50])
  (.cond (.t 50)
  c_ref10_Similarity_b1
  (.skip))))
  (.ops [⟨some 33, .p (.mov (.t 10)), none⟩,
    ⟨some 34, .p (.bin 3 .add (.t 33) (.c (.int .i64 ((1 : Nat) : Int)))), none⟩,
    ⟨some 10, .p (.mov (.t 34)), none⟩] [0, 1, 5, 6, 7, 8, 9, 10])
def c_ref10_Similarity_L3 : VCode := .seq (.seq (.ops [⟨some 29, .p (.mov (.t 10)), none⟩,
    ⟨some 30, .p (.mov (.t 6)), none⟩,
    ⟨some 31, .p (.lenV (.t 30)), none⟩,
    ⟨some 32, .p (.bin 3 .lss (.t 29) (.t 31)), none⟩] [0, 1, 5, 6, 7, 8, 9, 10, 32])
  (.cond (.t 32)
  (.skip)
  (.exit 2)))
  c_ref10_Similarity_k2
def c_ref10_Similarity_k4 : VCode := .block 2 (.loop [0, 1, 5, 6, 7, 8, 9, 10] c_ref10_Similarity_L3)
def c_ref10_Similarity_k5 : VCode := .ops [⟨some 27, .p (.mov (.t 9)), none⟩,
    ⟨some 28, .p (.bin 3 .add (.t 27) (.c (.int .i64 ((1 : Nat) : Int)))), none⟩,
    ⟨some 9, .p (.mov (.t 28)), none⟩] [0, 1, 5, 6, 7, 8, 9]
def c_ref10_Similarity_k6 : VCode := .seq (.block 1 (.seq (.ops [⟨some 10, .p (.mov (.c (.int .i64 ((0 : Nat) : Int)))), none⟩] [0, 1, 5, 6, 7, 8, 9, 10])
  c_ref10_Similarity_k4))
  c_ref10_Similarity_k5
def c_ref10_Similarity_L7 : VCode := .seq (.seq (.ops [⟨some 23, .p (.mov (.t 9)), none⟩,
    ⟨some 24, .p (.mov (.t 5)), none⟩,
    ⟨some 25, .p (.lenV (.t 24)), none⟩,
    ⟨some 26, .p (.bin 3 .lss (.t 23) (.t 25)), none⟩] [0, 1, 5, 6, 7, 8, 9, 26])
  (.cond (.t 26)
  (.skip)
  (.exit 0)))
  c_ref10_Similarity_k6
def c_ref10_Similarity_k8 : VCode := .block 0 (.loop [0, 1, 5, 6, 7, 8, 9] c_ref10_Similarity_L7)
def c_ref10_Similarity_k9 : VCode := .seq (.ops [⟨some 61, .p (.mov (.t 8)), none⟩,
    ⟨some 62, .p (.bin 3 .mul (.c (.int .i64 ((200 : Nat) : Int))) (.t 61)), none⟩,
    ⟨some 63, .p (.mov (.t 0)), none⟩,
    ⟨some 64, .p (.lenV (.t 63)), none⟩,
    ⟨some 65, .p (.mov (.t 1)), none⟩,
    ⟨some 66, .p (.lenV (.t 65)), none⟩,
    ⟨some 67, .p (.bin 3 .add (.t 64) (.t 66)), none⟩,
    ⟨some 68, .p (.bin 3 .quo (.t 62) (.t 67)), none⟩,
    ⟨some 4, .p (.mov (.t 68)), none⟩] [4])
  (.ret)
def c_ref10_Similarity_k10 : VCode := .seq (.seq (.ops [⟨some 9, .p (.mov (.c (.int .i64 ((0 : Nat) : Int)))), none⟩] [0, 1, 5, 6, 7, 8, 9])
  c_ref10_Similarity_k8)
  c_ref10_Similarity_k9
def c_ref10_Similarity_k11 : VCode := .seq (.ops [⟨some 8, .p (.mov (.c (.int .i64 ((0 : Nat) : Int)))), none⟩] [0, 1, 5, 6, 7, 8])
  c_ref10_Similarity_k10
def c_ref10_Similarity_k12 : VCode := .seq (.ops [⟨some 20, .p (.mov (.t 6)), none⟩,
    ⟨some 21, .p (.lenV (.t 20)), none⟩,
    ⟨some 22, .s (.mks 1 1 (.val (.bool false)) (.t 21) (.t 21)), none⟩,
    ⟨some 7, .p (.mov (.t 22)), none⟩] [0, 1, 5, 6, 7])
  c_ref10_Similarity_k11
def c_ref10_Similarity_k13 : VCode := .seq (.ops [⟨some 18, .p (.mov (.t 1)), none⟩,
    ⟨some 19, .s (.call 25 [.t 18]), none⟩,
    ⟨some 6, .p (.mov (.t 19)), none⟩] [0, 1, 5, 6])
  c_ref10_Similarity_k12
def c_ref10_Similarity_k14 : VCode := .seq (.ops [⟨some 16, .p (.mov (.t 0)), none⟩,
    ⟨some 17, .s (.call 25 [.t 16]), none⟩,
    ⟨some 5, .p (.mov (.t 17)), none⟩] [0, 1, 5])
  c_ref10_Similarity_k13
def c_ref10_Similarity_k15 : VCode := .seq (.seq (.ops [⟨some 11, .p (.mov (.t 0)), none⟩,
    ⟨some 12, .p (.b2s (.t 11)), none⟩,
    ⟨some 13, .p (.mov (.t 1)), none⟩,
    ⟨some 14, .p (.b2s (.t 13)), none⟩,
    ⟨some 15, .p (.bin 9 .eql (.t 12) (.t 14)), none⟩] [0, 1, 15])
  (.cond (.t 15)
  (.seq (.ops [⟨some 4, .p (.mov (.c (.int .i64 ((100 : Nat) : Int)))), none⟩] [4])
    (.ret))
  (.skip)))
  c_ref10_Similarity_k14
def c_ref10_Similarity : VCode := .seq (.ops [⟨some 4, .p (.mov (.c (.int .i64 ((0 : Nat) : Int)))), none⟩] [0, 1])
  c_ref10_Similarity_k15
def r_ref10_Similarity : List VR := [.tmp 4]
theorem t_ref10_Similarity : Try.f17.body.bind (trC Try.prog Try.f17.ntmps) = some (er c_ref10_Similarity) := by kernel_rfl
theorem w_ref10_Similarity : trR Try.prog Try.f17.results.toList = some r_ref10_Similarity := by kernel_rfl
theorem u_ref10_Similarity_b1_e {P : Program} {Q : VEx → Env → List Ob → Prop} {e : Env} {H : List Ob} : vwp P c_ref10_Similarity_b1 Q e H = vwp P (.seq (.ops [⟨some 51, .p (.mov (.t 7)), none⟩,
    ⟨some 52, .p (.mov (.t 10)), none⟩,
    ⟨some 53, .p (.idxA 1 (.t 51) (.t 52)), none⟩,
    ⟨none, .s (.store 1 (.t 53) (.c (.bool true))), none⟩] [0, 1, 5, 6, 7, 8, 9])
  (.seq (.ops [⟨some 54, .p (.mov (.t 8)), none⟩,
    ⟨some 55, .p (.mov (.t 5)), none⟩,
    ⟨some 56, .p (.mov (.t 9)), none⟩,
    ⟨some 57, .p (.idxA 1 (.t 55) (.t 56)), none⟩,
    ⟨some 58, .p (.load false 1 (.t 57)), none⟩,
    ⟨some 59, .p (.lenS (.t 58)), none⟩,
    ⟨some 60, .p (.bin 3 .add (.t 54) (.t 59)), none⟩,
    ⟨some 8, .p (.mov (.t 60)), none⟩] [0, 1, 5, 6, 7, 8, 9])
  (.exit 2))) Q e H := by_refl rfl
theorem u_ref10_Similarity_k2_e {P : Program} {Q : VEx → Env → List Ob → Prop} {e : Env} {H : List Ob} : vwp P c_ref10_Similarity_k2 Q e H = vwp P (.seq (.block 3 (.seq (.draw 14 [⟨some 35, .p (.mov (.t 7)), none⟩,
    ⟨some 36, .p (.mov (.t 10)), none⟩,
    ⟨some 37, .p (.idxA 1 (.t 35) (.t 36)), none⟩,
    ⟨some 38, .p (.load false 1 (.t 37)), none⟩,
    ⟨some 39, .p (.un .not (.t 38)), none⟩,
    ⟨some 40, .p (.mov (.t 39)), none⟩,
    ⟨some 41, .p (.mov (.t 6)), some ⟨40, true⟩⟩,
    ⟨some 42, .p (.mov (.t 10)), some ⟨40, true⟩⟩,
    ⟨some 43, .p (.idxA 1 (.t 41) (.t 42)), some ⟨40, true⟩⟩,
    ⟨some 44, .p (.load false 1 (.t 43)), some ⟨40, true⟩⟩,
    ⟨some 45, .p (.mov (.t 5)), some ⟨40, true⟩⟩,
    ⟨some 46, .p (.mov (.t 9)), some ⟨40, true⟩⟩,
    ⟨some 47, .p (.idxA 1 (.t 45) (.t 46)), some ⟨40, true⟩⟩,
    ⟨some 48, .p (.load false 1 (.t 47)), some ⟨40, true⟩⟩,
    ⟨some 49, .p (.bin 9 .eql (.t 44) (.t 48)), some ⟨40, true⟩⟩,
    ⟨some 50, .p (.pick (.t 40) (.t 49) (.c (.bool false))), none⟩] [0, 1, 5, 6, 7, 8, 9, 10, 50])
  (.cond (.t 50)
  c_ref10_Similarity_b1
  (.skip))))
  (.ops [⟨some 33, .p (.mov (.t 10)), none⟩,
    ⟨some 34, .p (.bin 3 .add (.t 33) (.c (.int .i64 ((1 : Nat) : Int)))), none⟩,
    ⟨some 10, .p (.mov (.t 34)), none⟩] [0, 1, 5, 6, 7, 8, 9, 10])) Q e H := by_refl rfl
theorem u_ref10_Similarity_L3_e {P : Program} {Q : VEx → Env → List Ob → Prop} {e : Env} {H : List Ob} : vwp P c_ref10_Similarity_L3 Q e H = vwp P (.seq (.seq (.ops [⟨some 29, .p (.mov (.t 10)), none⟩,
    ⟨some 30, .p (.mov (.t 6)), none⟩,
    ⟨some 31, .p (.lenV (.t 30)), none⟩,
    ⟨some 32, .p (.bin 3 .lss (.t 29) (.t 31)), none⟩] [0, 1, 5, 6, 7, 8, 9, 10, 32])
  (.cond (.t 32)
  (.skip)
  (.exit 2)))
  c_ref10_Similarity_k2) Q e H := by_refl rfl
theorem u_ref10_Similarity_k4_e {P : Program} {Q : VEx → Env → List Ob → Prop} {e : Env} {H : List Ob} : vwp P c_ref10_Similarity_k4 Q e H = vwp P (.block 2 (.loop [0, 1, 5, 6, 7, 8, 9, 10] c_ref10_Similarity_L3)) Q e H := by_refl rfl
theorem u_ref10_Similarity_k5_e {P : Program} {Q : VEx → Env → List Ob → Prop} {e : Env} {H : List Ob} : vwp P c_ref10_Similarity_k5 Q e H = vwp P (.ops [⟨some 27, .p (.mov (.t 9)), none⟩,
    ⟨some 28, .p (.bin 3 .add (.t 27) (.c (.int .i64 ((1 : Nat) : Int)))), none⟩,
    ⟨some 9, .p (.mov (.t 28)), none⟩] [0, 1, 5, 6, 7, 8, 9]) Q e H := by_refl rfl
theorem u_ref10_Similarity_k6_e {P : Program} {Q : VEx → Env → List Ob → Prop} {e : Env} {H : List Ob} : vwp P c_ref10_Similarity_k6 Q e H = vwp P (.seq (.block 1 (.seq (.ops [⟨some 10, .p (.mov (.c (.int .i64 ((0 : Nat) : Int)))), none⟩] [0, 1, 5, 6, 7, 8, 9, 10])
  c_ref10_Similarity_k4))
  c_ref10_Similarity_k5) Q e H := by_refl rfl
theorem u_ref10_Similarity_L7_e {P : Program} {Q : VEx → Env → List Ob → Prop} {e : Env} {H : List Ob} : vwp P c_ref10_Similarity_L7 Q e H = vwp P (.seq (.seq (.ops [⟨some 23, .p (.mov (.t 9)), none⟩,
    ⟨some 24, .p (.mov (.t 5)), none⟩,
    ⟨some 25, .p (.lenV (.t 24)), none⟩,
    ⟨some 26, .p (.bin 3 .lss (.t 23) (.t 25)), none⟩] [0, 1, 5, 6, 7, 8, 9, 26])
  (.cond (.t 26)
  (.skip)
  (.exit 0)))
  c_ref10_Similarity_k6) Q e H := by_refl rfl
theorem u_ref10_Similarity_k8_e {P : Program} {Q : VEx → Env → List Ob → Prop} {e : Env} {H : List Ob} : vwp P c_ref10_Similarity_k8 Q e H = vwp P (.block 0 (.loop [0, 1, 5, 6, 7, 8, 9] c_ref10_Similarity_L7)) Q e H := by_refl rfl
theorem u_ref10_Similarity_k9_e {P : Program} {Q : VEx → Env → List Ob → Prop} {e : Env} {H : List Ob} : vwp P c_ref10_Similarity_k9 Q e H = vwp P (.seq (.ops [⟨some 61, .p (.mov (.t 8)), none⟩,
    ⟨some 62, .p (.bin 3 .mul (.c (.int .i64 ((200 : Nat) : Int))) (.t 61)), none⟩,
    ⟨some 63, .p (.mov (.t 0)), none⟩,
    ⟨some 64, .p (.lenV (.t 63)), none⟩,
    ⟨some 65, .p (.mov (.t 1)), none⟩,
    ⟨some 66, .p (.lenV (.t 65)), none⟩,
    ⟨some 67, .p (.bin 3 .add (.t 64) (.t 66)), none⟩,
    ⟨some 68, .p (.bin 3 .quo (.t 62) (.t 67)), none⟩,
    ⟨some 4, .p (.mov (.t 68)), none⟩] [4])
  (.ret)) Q e H := by_refl rfl
theorem u_ref10_Similarity_k10_e {P : Program} {Q : VEx → Env → List Ob → Prop} {e : Env} {H : List Ob} : vwp P c_ref10_Similarity_k10 Q e H = vwp P (.seq (.seq (.ops [⟨some 9, .p (.mov (.c (.int .i64 ((0 : Nat) : Int)))), none⟩] [0, 1, 5, 6, 7, 8, 9])
  c_ref10_Similarity_k8)
  c_ref10_Similarity_k9) Q e H := by_refl rfl
theorem u_ref10_Similarity_k11_e {P : Program} {Q : VEx → Env → List Ob → Prop} {e : Env} {H : List Ob} : vwp P c_ref10_Similarity_k11 Q e H = vwp P (.seq (.ops [⟨some 8, .p (.mov (.c (.int .i64 ((0 : Nat) : Int)))), none⟩] [0, 1, 5, 6, 7, 8])
  c_ref10_Similarity_k10) Q e H := by_refl rfl
theorem u_ref10_Similarity_k12_e {P : Program} {Q : VEx → Env → List Ob → Prop} {e : Env} {H : List Ob} : vwp P c_ref10_Similarity_k12 Q e H = vwp P (.seq (.ops [⟨some 20, .p (.mov (.t 6)), none⟩,
    ⟨some 21, .p (.lenV (.t 20)), none⟩,
    ⟨some 22, .s (.mks 1 1 (.val (.bool false)) (.t 21) (.t 21)), none⟩,
    ⟨some 7, .p (.mov (.t 22)), none⟩] [0, 1, 5, 6, 7])
  c_ref10_Similarity_k11) Q e H := by_refl rfl
theorem u_ref10_Similarity_k13_e {P : Program} {Q : VEx → Env → List Ob → Prop} {e : Env} {H : List Ob} : vwp P c_ref10_Similarity_k13 Q e H = vwp P (.seq (.ops [⟨some 18, .p (.mov (.t 1)), none⟩,
    ⟨some 19, .s (.call 25 [.t 18]), none⟩,
    ⟨some 6, .p (.mov (.t 19)), none⟩] [0, 1, 5, 6])
  c_ref10_Similarity_k12) Q e H := by_refl rfl
theorem u_ref10_Similarity_k14_e {P : Program} {Q : VEx → Env → List Ob → Prop} {e : Env} {H : List Ob} : vwp P c_ref10_Similarity_k14 Q e H = vwp P (.seq (.ops [⟨some 16, .p (.mov (.t 0)), none⟩,
    ⟨some 17, .s (.call 25 [.t 16]), none⟩,
    ⟨some 5, .p (.mov (.t 17)), none⟩] [0, 1, 5])
  c_ref10_Similarity_k13) Q e H := by_refl rfl
theorem u_ref10_Similarity_k15_e {P : Program} {Q : VEx → Env → List Ob → Prop} {e : Env} {H : List Ob} : vwp P c_ref10_Similarity_k15 Q e H = vwp P (.seq (.seq (.ops [⟨some 11, .p (.mov (.t 0)), none⟩,
    ⟨some 12, .p (.b2s (.t 11)), none⟩,
    ⟨some 13, .p (.mov (.t 1)), none⟩,
    ⟨some 14, .p (.b2s (.t 13)), none⟩,
    ⟨some 15, .p (.bin 9 .eql (.t 12) (.t 14)), none⟩] [0, 1, 15])
  (.cond (.t 15)
  (.seq (.ops [⟨some 4, .p (.mov (.c (.int .i64 ((100 : Nat) : Int)))), none⟩] [4])
    (.ret))
  (.skip)))
  c_ref10_Similarity_k14) Q e H := by_refl rfl
theorem u_ref10_Similarity_e {P : Program} {Q : VEx → Env → List Ob → Prop} {e : Env} {H : List Ob} : vwp P c_ref10_Similarity Q e H = vwp P (.seq (.ops [⟨some 4, .p (.mov (.c (.int .i64 ((0 : Nat) : Int)))), none⟩] [0, 1])
  c_ref10_Similarity_k15) Q e H := by_refl rfl
theorem u_ref10_Similarity_r {K : TV → Prop} {e : Env} {H : List Ob} : res r_ref10_Similarity e H K = res [.tmp 4] e H K := by_refl rfl
def u_ref10_Similarity := (And.intro (And.intro (And.intro (And.intro (And.intro @u_ref10_Similarity_b1_e @u_ref10_Similarity_k2_e) (And.intro @u_ref10_Similarity_L3_e @u_ref10_Similarity_k4_e)) (And.intro (And.intro @u_ref10_Similarity_k5_e @u_ref10_Similarity_k6_e) (And.intro @u_ref10_Similarity_L7_e @u_ref10_Similarity_k8_e))) (And.intro (And.intro (And.intro @u_ref10_Similarity_k9_e @u_ref10_Similarity_k10_e) (And.intro @u_ref10_Similarity_k11_e @u_ref10_Similarity_k12_e)) (And.intro (And.intro @u_ref10_Similarity_k13_e @u_ref10_Similarity_k14_e) (And.intro @u_ref10_Similarity_k15_e @u_ref10_Similarity_e)))) @u_ref10_Similarity_r)
theorem go_ref10_Similarity {args : List TV} {H : List Ob} {R : TV → List Ob → Prop} (hn : args.length ≤ 69) (h : vwp Try.prog c_ref10_Similarity (atEnd r_ref10_Similarity R) (argsE 0 args) H) : VCalls Try.prog 17 args H R := vcalls_of Try.func17 t_ref10_Similarity w_ref10_Similarity hn h

/-! gitlike/gitlikelaw10.DiffSimilar -/
def c_law10_DiffSimilar_k1 : VCode := .seq (.ops [⟨some 29, .p (.mov (.t 5)), none⟩,
    ⟨some 30, .p (.mov (.t 6)), none⟩,
    ⟨some 31, .p (.bin 3 .eql (.t 29) (.t 30)), none⟩,
    ⟨some 32, .p (.mov (.t 31)), none⟩,
    ⟨some 33, .p (.mov (.t 7)), some ⟨32, true⟩⟩,
    ⟨some 34, .p (.mov (.t 5)), some ⟨32, true⟩⟩,
    ⟨some 35, .p (.bin 3 .eql (.t 33) (.t 34)), some ⟨32, true⟩⟩,
    ⟨some 36, .p (.pick (.t 32) (.t 35) (.c (.bool false))), none⟩,
    ⟨some 37, .p (.mov (.t 36)), none⟩,
    ⟨some 38, .p (.mov (.t 8)), some ⟨37, true⟩⟩,
    ⟨some 39, .p (.bin 3 .eql (.t 38) (.c (.int .i64 ((100 : Nat) : Int)))), some ⟨37, true⟩⟩,
    ⟨some 40, .p (.pick (.t 37) (.t 39) (.c (.bool false))), none⟩,
    ⟨some 4, .p (.mov (.t 40)), none⟩] [4])
  (.ret)
def c_law10_DiffSimilar_k2 : VCode := .seq (.ops [⟨some 26, .p (.mov (.t 0)), none⟩,
    ⟨some 27, .p (.mov (.t 0)), none⟩,
    ⟨some 28, .s (.call 16 [.t 26, .t 27]), none⟩,
    ⟨some 8, .p (.mov (.t 28)), none⟩] [5, 6, 7, 8])
  c_law10_DiffSimilar_k1
def c_law10_DiffSimilar_k3 : VCode := .seq (.ops [⟨some 23, .p (.mov (.t 1)), none⟩,
    ⟨some 24, .p (.mov (.t 0)), none⟩,
    ⟨some 25, .s (.call 16 [.t 23, .t 24]), none⟩,
    ⟨some 7, .p (.mov (.t 25)), none⟩] [0, 5, 6, 7])
  c_law10_DiffSimilar_k2
def c_law10_DiffSimilar_k4 : VCode := .seq (.ops [⟨some 20, .p (.mov (.t 0)), none⟩,
    ⟨some 21, .p (.mov (.t 1)), none⟩,
    ⟨some 22, .s (.call 17 [.t 20, .t 21]), none⟩,
    ⟨some 6, .p (.mov (.t 22)), none⟩] [0, 1, 5, 6])
  c_law10_DiffSimilar_k3
def c_law10_DiffSimilar_k5 : VCode := .seq (.ops [⟨some 17, .p (.mov (.t 0)), none⟩,
    ⟨some 18, .p (.mov (.t 1)), none⟩,
    ⟨some 19, .s (.call 16 [.t 17, .t 18]), none⟩,
    ⟨some 5, .p (.mov (.t 19)), none⟩] [0, 1, 5])
  c_law10_DiffSimilar_k4
def c_law10_DiffSimilar_k6 : VCode := .seq (.seq (.ops [⟨some 9, .p (.mov (.t 0)), none⟩,
    ⟨some 10, .p (.lenV (.t 9)), none⟩,
    ⟨some 11, .p (.bin 3 .gtr (.t 10) (.c (.int .i64 ((4000 : Nat) : Int)))), none⟩,
    ⟨some 12, .p (.mov (.t 11)), none⟩,
    ⟨some 13, .p (.mov (.t 1)), some ⟨12, false⟩⟩,
    ⟨some 14, .p (.lenV (.t 13)), some ⟨12, false⟩⟩,
    ⟨some 15, .p (.bin 3 .gtr (.t 14) (.c (.int .i64 ((4000 : Nat) : Int)))), some ⟨12, false⟩⟩,
    ⟨some 16, .p (.pick (.t 12) (.c (.bool true)) (.t 15)), none⟩] [0, 1, 16])
  (.cond (.t 16)
  (.seq (.ops [⟨some 4, .p (.mov (.c (.bool true))), none⟩] [4])
    (.ret))
  (.skip)))
  c_law10_DiffSimilar_k5
def c_law10_DiffSimilar : VCode := .seq (.ops [⟨some 4, .p (.mov (.c (.bool false))), none⟩] [0, 1])
  c_law10_DiffSimilar_k6
def r_law10_DiffSimilar : List VR := [.tmp 4]
theorem t_law10_DiffSimilar : Try.f4.body.bind (trC Try.prog Try.f4.ntmps) = some (er c_law10_DiffSimilar) := by kernel_rfl
theorem w_law10_DiffSimilar : trR Try.prog Try.f4.results.toList = some r_law10_DiffSimilar := by kernel_rfl
theorem u_law10_DiffSimilar_k1_e {P : Program} {Q : VEx → Env → List Ob → Prop} {e : Env} {H : List Ob} : vwp P c_law10_DiffSimilar_k1 Q e H = vwp P (.seq (.ops [⟨some 29, .p (.mov (.t 5)), none⟩,
    ⟨some 30, .p (.mov (.t 6)), none⟩,
    ⟨some 31, .p (.bin 3 .eql (.t 29) (.t 30)), none⟩,
    ⟨some 32, .p (.mov (.t 31)), none⟩,
    ⟨some 33, .p (.mov (.t 7)), some ⟨32, true⟩⟩,
    ⟨some 34, .p (.mov (.t 5)), some ⟨32, true⟩⟩,
    ⟨some 35, .p (.bin 3 .eql (.t 33) (.t 34)), some ⟨32, true⟩⟩,
    ⟨some 36, .p (.pick (.t 32) (.t 35) (.c (.bool false))), none⟩,
    ⟨some 37, .p (.mov (.t 36)), none⟩,
    ⟨some 38, .p (.mov (.t 8)), some ⟨37, true⟩⟩,
    ⟨some 39, .p (.bin 3 .eql (.t 38) (.c (.int .i64 ((100 : Nat) : Int)))), some ⟨37, true⟩⟩,
    ⟨some 40, .p (.pick (.t 37) (.t 39) (.c (.bool false))), none⟩,
    ⟨some 4, .p (.mov (.t 40)), none⟩] [4])
  (.ret)) Q e H := by_refl rfl
theorem u_law10_DiffSimilar_k2_e {P : Program} {Q : VEx → Env → List Ob → Prop} {e : Env} {H : List Ob} : vwp P c_law10_DiffSimilar_k2 Q e H = vwp P (.seq (.ops [⟨some 26, .p (.mov (.t 0)), none⟩,
    ⟨some 27, .p (.mov (.t 0)), none⟩,
    ⟨some 28, .s (.call 16 [.t 26, .t 27]), none⟩,
    ⟨some 8, .p (.mov (.t 28)), none⟩] [5, 6, 7, 8])
  c_law10_DiffSimilar_k1) Q e H := by_refl rfl
theorem u_law10_DiffSimilar_k3_e {P : Program} {Q : VEx → Env → List Ob → Prop} {e : Env} {H : List Ob} : vwp P c_law10_DiffSimilar_k3 Q e H = vwp P (.seq (.ops [⟨some 23, .p (.mov (.t 1)), none⟩,
    ⟨some 24, .p (.mov (.t 0)), none⟩,
    ⟨some 25, .s (.call 16 [.t 23, .t 24]), none⟩,
    ⟨some 7, .p (.mov (.t 25)), none⟩] [0, 5, 6, 7])
  c_law10_DiffSimilar_k2) Q e H := by_refl rfl
theorem u_law10_DiffSimilar_k4_e {P : Program} {Q : VEx → Env → List Ob → Prop} {e : Env} {H : List Ob} : vwp P c_law10_DiffSimilar_k4 Q e H = vwp P (.seq (.ops [⟨some 20, .p (.mov (.t 0)), none⟩,
    ⟨some 21, .p (.mov (.t 1)), none⟩,
    ⟨some 22, .s (.call 17 [.t 20, .t 21]), none⟩,
    ⟨some 6, .p (.mov (.t 22)), none⟩] [0, 1, 5, 6])
  c_law10_DiffSimilar_k3) Q e H := by_refl rfl
theorem u_law10_DiffSimilar_k5_e {P : Program} {Q : VEx → Env → List Ob → Prop} {e : Env} {H : List Ob} : vwp P c_law10_DiffSimilar_k5 Q e H = vwp P (.seq (.ops [⟨some 17, .p (.mov (.t 0)), none⟩,
    ⟨some 18, .p (.mov (.t 1)), none⟩,
    ⟨some 19, .s (.call 16 [.t 17, .t 18]), none⟩,
    ⟨some 5, .p (.mov (.t 19)), none⟩] [0, 1, 5])
  c_law10_DiffSimilar_k4) Q e H := by_refl rfl
theorem u_law10_DiffSimilar_k6_e {P : Program} {Q : VEx → Env → List Ob → Prop} {e : Env} {H : List Ob} : vwp P c_law10_DiffSimilar_k6 Q e H = vwp P (.seq (.seq (.ops [⟨some 9, .p (.mov (.t 0)), none⟩,
    ⟨some 10, .p (.lenV (.t 9)), none⟩,
    ⟨some 11, .p (.bin 3 .gtr (.t 10) (.c (.int .i64 ((4000 : Nat) : Int)))), none⟩,
    ⟨some 12, .p (.mov (.t 11)), none⟩,
    ⟨some 13, .p (.mov (.t 1)), some ⟨12, false⟩⟩,
    ⟨some 14, .p (.lenV (.t 13)), some ⟨12, false⟩⟩,
    ⟨some 15, .p (.bin 3 .gtr (.t 14) (.c (.int .i64 ((4000 : Nat) : Int)))), some ⟨12, false⟩⟩,
    ⟨some 16, .p (.pick (.t 12) (.c (.bool true)) (.t 15)), none⟩] [0, 1, 16])
  (.cond (.t 16)
  (.seq (.ops [⟨some 4, .p (.mov (.c (.bool true))), none⟩] [4])
    (.ret))
  (.skip)))
  c_law10_DiffSimilar_k5) Q e H := by_refl rfl
theorem u_law10_DiffSimilar_e {P : Program} {Q : VEx → Env → List Ob → Prop} {e : Env} {H : List Ob} : vwp P c_law10_DiffSimilar Q e H = vwp P (.seq (.ops [⟨some 4, .p (.mov (.c (.bool false))), none⟩] [0, 1])
  c_law10_DiffSimilar_k6) Q e H := by_refl rfl
theorem u_law10_DiffSimilar_r {K : TV → Prop} {e : Env} {H : List Ob} : res r_law10_DiffSimilar e H K = res [.tmp 4] e H K := by_refl rfl
def u_law10_DiffSimilar := (And.intro (And.intro (And.intro @u_law10_DiffSimilar_k1_e @u_law10_DiffSimilar_k2_e) (And.intro @u_law10_DiffSimilar_k3_e @u_law10_DiffSimilar_k4_e)) (And.intro (And.intro @u_law10_DiffSimilar_k5_e @u_law10_DiffSimilar_k6_e) (And.intro @u_law10_DiffSimilar_e @u_law10_DiffSimilar_r)))
theorem go_law10_DiffSimilar {args : List TV} {H : List Ob} {R : TV → List Ob → Prop} (hn : args.length ≤ 41) (h : vwp Try.prog c_law10_DiffSimilar (atEnd r_law10_DiffSimilar R) (argsE 0 args) H) : VCalls Try.prog 4 args H R := vcalls_of Try.func4 t_law10_DiffSimilar w_law10_DiffSimilar hn h

/-! bytes.Equal -/
def c_bytes_Equal : VCode := .seq (.ops [⟨some 4, .p (.mov (.c (.bool false))), none⟩] [0, 1])
  (.seq (.ops [⟨some 5, .p (.mov (.t 0)), none⟩,
    ⟨some 6, .p (.b2s (.t 5)), none⟩,
    ⟨some 7, .p (.mov (.t 1)), none⟩,
    ⟨some 8, .p (.b2s (.t 7)), none⟩,
    ⟨some 9, .p (.bin 9 .eql (.t 6) (.t 8)), none⟩,
    ⟨some 4, .p (.mov (.t 9)), none⟩] [4])
  (.ret))
def r_bytes_Equal : List VR := [.tmp 4]
theorem t_bytes_Equal : Try.f31.body.bind (trC Try.prog Try.f31.ntmps) = some (er c_bytes_Equal) := by kernel_rfl
theorem w_bytes_Equal : trR Try.prog Try.f31.results.toList = some r_bytes_Equal := by kernel_rfl
theorem u_bytes_Equal_e {P : Program} {Q : VEx → Env → List Ob → Prop} {e : Env} {H : List Ob} : vwp P c_bytes_Equal Q e H = vwp P (.seq (.ops [⟨some 4, .p (.mov (.c (.bool false))), none⟩] [0, 1])
  (.seq (.ops [⟨some 5, .p (.mov (.t 0)), none⟩,
    ⟨some 6, .p (.b2s (.t 5)), none⟩,
    ⟨some 7, .p (.mov (.t 1)), none⟩,
    ⟨some 8, .p (.b2s (.t 7)), none⟩,
    ⟨some 9, .p (.bin 9 .eql (.t 6) (.t 8)), none⟩,
    ⟨some 4, .p (.mov (.t 9)), none⟩] [4])
  (.ret))) Q e H := by_refl rfl
theorem u_bytes_Equal_r {K : TV → Prop} {e : Env} {H : List Ob} : res r_bytes_Equal e H K = res [.tmp 4] e H K := by_refl rfl
def u_bytes_Equal := (And.intro @u_bytes_Equal_e @u_bytes_Equal_r)
theorem go_bytes_Equal {args : List TV} {H : List Ob} {R : TV → List Ob → Prop} (hn : args.length ≤ 10) (h : vwp Try.prog c_bytes_Equal (atEnd r_bytes_Equal R) (argsE 0 args) H) : VCalls Try.prog 31 args H R := vcalls_of Try.func31 t_bytes_Equal w_bytes_Equal hn h

end Go.Proofs.Ytknphdcjopaaoaa
